/- Contracts: keep.counted, keep.Names. -/
import Derived.Test.YtfhjfpikngcknaaKeepT
import Derived.Test.YtfhjfpikngcknaaMap
import Derived.Test.YtfhjfpikngcknaaKeepC
namespace Go.Proofs.Ytfhjfpikngcknaa
open Go Go.RowKit Go.Wk
attribute [local irreducible] W RL Does thenQ blockQ retQ Calls Pu Stp RD Qy Ay DoesIn


/-- How often x is in a list. -/
def cntB (x : ByteArray) : List ByteArray → Nat
  | [] => 0
  | y :: l => (if y = x then 1 else 0) + cntB x l
theorem cntB_snoc (x y : ByteArray) : ∀ l, cntB x (l ++ [y]) = cntB x l + if y = x then 1 else 0
  | [] => by simp [cntB]
  | z :: l => by simp only [List.cons_append, cntB, cntB_snoc x y l]; omega
theorem cntB_le (x : ByteArray) : ∀ l, cntB x l ≤ l.length
  | [] => Nat.le_refl _
  | y :: l => by
    have := cntB_le x l
    simp only [cntB, List.length_cons]
    split <;> omega
theorem cntB_pos (x : ByteArray) : ∀ l, decide (0 < cntB x l) = memB x l
  | [] => by simp [cntB, memB]
  | y :: l => by
    have ih := cntB_pos x l
    by_cases h : y = x
    · simp [cntB, memB, h]
      omega
    · simp only [cntB, memB, h, if_false, Nat.zero_add, decide_false, Bool.false_or]
      exact ih
def CntB (m : List (ByteArray × Value)) (l : List ByteArray) : Prop := ∀ x, (mget m x).getD (.int .i64 0) = .int .i64 (cntB x l)
theorem CntB.set {m : List (ByteArray × Value)} {l : List ByteArray} (h : CntB m l) (y : ByteArray) : CntB (mset m y (.int .i64 ((cntB y l : Int) + 1))) (l ++ [y]) := fun x => by
  rw [mget_mset, cntB_snoc]
  by_cases e : x = y
  · subst e
    simp
  · rw [if_neg e, if_neg (fun h => e h.symm), Nat.add_zero]
    exact h x
/-- A result that is a map of counts. -/
def NewCnt (l : List ByteArray) (v : Value) (O : List It) : Prop := ∃ b m, v = .map (some b) ∧ O = [.mp b m] ∧ CntB m l

theorem counted_spec (A : Option Addr) (c : Nat) (l : List ByteArray) (w : World) (hA : RdSl w A c strEnc 1 l) (hn : l.length ≤ 1000000) : Does Try.prog 56 [.slice A l.length c] w (NewCnt l) := by
  refine Does_of_W Try.func56 rfl rfl rfl rfl ?_
  repeat (first | (apply RL_st; rfl; (apply Stp_makeMap; intro bk)) | refine walk ?_)
  refine W_loopF [(3, _), (7, _), (8, _)] [] (fun g : MG2 => [(9, .int .i64 g.k)]) (fun g => [.mp _ g.mp]) (fun g => g.k ≤ l.length ∧ CntB g.mp g.acc ∧ g.acc = l.take g.k) (fun g => l.length - g.k) ⟨0, [], []⟩ (by repeat (first | exact trivial | refine ⟨rfl, ?_⟩)) (.refl _) ⟨by simp, fun _ => rfl, by simp⟩ ?_
  rintro ⟨k, acc, mp⟩ ⟨hk, hp, hi⟩
  dsimp only at hk hp hi ⊢
  repeat (first | (apply RL_st; rfl; (apply Stp_makeMap; intro bk)) | refine walk ?_)
  refine W_cond rfl (fun hc => ?_) (fun hc => ?_)
  · simp only [decide_eq_true_eq, Int.ofNat_lt] at hc
    obtain ⟨hna, hca⟩ := hA.rd k _ (List.getElem?_eq_getElem hc)
    have hnb := hna
    have hcb := hca
    have ht := List.take_append_getElem hc
    generalize l[k] = r at *
    have hb := cntB_le r acc
    have hal : acc.length ≤ k := by rw [hi, List.length_take]; omega
    repeat (first | (apply RL_pu; rfl; (first | (apply Pu_indexAddr; rfl; rfl; omega; omega; (first | exact hna | exact hnb)) | (apply Pu_loadON; rfl; (first | exact hca | exact hcb); rfl) | (apply Pu_loadO1'; rfl; (first | exact hca | exact hcb); rfl) | (apply Pu_loadO1; rfl; (first | exact hca 0 _ rfl | exact hcb 0 _ rfl)) | (apply Pu_lookupC; rfl; rfl; (focus repeat' constructor); exact hp _))) | (apply RL_st; rfl; (apply Stp_makeMap; intro bk)) | refine walk1 ?_)
    exact ⟨⟨k + 1, acc ++ [r], mset mp r (.int .i64 ((cntB r acc : Int) + 1))⟩, (by first | omega | (dsimp only; omega)), ⟨(by first | omega | (dsimp only; omega)), hp.set _, by rw [hi, ht]⟩, (by repeat (first | exact trivial | refine ⟨rfl, ?_⟩)), (by first | exact .refl _ | focus repeat (first | exact SubO.nil | (apply SubO.cons; focus repeat' constructor)))⟩
  simp only [decide_eq_false_iff_not, Int.ofNat_lt] at hc
  rw [List.take_of_length_le (by omega)] at hi
  repeat (first | (apply RL_st; rfl; (apply Stp_makeMap; intro bk)) | refine walk ?_)
  exact ret_1 _ [.mp _ mp] (.tmp rfl) (by first | exact .refl _ | focus repeat (first | exact SubO.nil | (apply SubO.cons; focus repeat' constructor))) ⟨_, mp, rfl, rfl, hi ▸ hp⟩

structure DOpt where
  bz : Bool
  all : Bool
  keep : List ByteArray
def optV (A : Option Addr) (c : Nat) (o : DOpt) : Value := .agg #[.bool o.bz, .bool o.all, .slice A o.keep.length c]
/-- The names that are kept, as they come. -/
def candB (s : DSource) (o : DOpt) : List ByteArray := (s.zones.filter fun z => o.all || memB z.name o.keep).map (·.name)
def namesP (s : DSource) (o : DOpt) : List ByteArray := if o.bz then cpt (sortB (candB s o)) (sortB (candB s o)).length else []

theorem sortB_length (l : List ByteArray) : (sortB l).length = l.length := by have := sortB_len l l.length (Nat.le_refl _); rwa [List.take_length] at this
set_option maxHeartbeats 4000000 in
theorem names_spec33 (Ar Az Al As : Option Addr) (cr cz cl cs : Nat) (a : DSource) (Ao : Option Addr) (co : Nat) (o : DOpt) (w : World) (hA : RdSource w Ar Az Al As cr cz cl cs a) (hO : RdSl w Ao co strEnc 1 o.keep) (hn : a.zones.length ≤ 12) (hk : o.keep.length ≤ 1000000) :
    Does Try.prog 20 [srcV Ar Az Al As cr cz cl cs a, optV Ao co o] w (NewSl 9 1 strEnc (namesP a o)) := by
  refine Does_of_W Try.func20 rfl rfl rfl rfl ?_
  repeat (first | (apply RL_st; rfl; (first | (apply Stp_boxNf; rfl; (focus repeat (first | exact Nf.nil | apply Nf.cons)); intro bk) | (apply Stp_alloc; intro bk) | (apply Stp_buildSliceC; rfl; rfl; rfl; rfl; (focus repeat (first | exact Nf.nil | apply Nf.cons)); intro bk))) | refine walk ?_)
  refine W_cond rfl (fun g1 => ?_) (fun g1 => ?_)
  · have e : namesP a o = [] := by simp at g1; simp [namesP, g1]
    rw [e]
    refine W_nil 9 1 ?_
    repeat (first | (apply RL_st; rfl; (first | (apply Stp_boxNf; rfl; (focus repeat (first | exact Nf.nil | apply Nf.cons)); intro bk) | (apply Stp_alloc; intro bk) | (apply Stp_buildSliceC; rfl; rfl; rfl; rfl; (focus repeat (first | exact Nf.nil | apply Nf.cons)); intro bk))) | refine walk ?_)
    exact ret_1 _ [.row (.slice none 0 0) 9 1 0 []] (.tmp rfl) (by first | exact .refl _ | focus repeat (first | exact SubO.nil | (apply SubO.cons; focus repeat' constructor))) ⟨none, 0, rfl, rfl⟩
  have e : namesP a o = cpt (sortB (candB a o)) (sortB (candB a o)).length := by simp at g1; simp [namesP, g1]
  rw [e]
  repeat (first | (apply RL_st0; (apply Stp_call (h := fun w' hw _ => counted_spec Ao co o.keep w' (hO.up hw) hk); rfl; rintro v O' ⟨bm, mp, rfl, rfl, hmp⟩)) | (apply RL_st; rfl; (first | (apply Stp_call (h := fun w' hw _ => counted_spec Ao co o.keep w' (hO.up hw) hk); rfl; rintro v O' ⟨bm, mp, rfl, rfl, hmp⟩) | (apply Stp_boxNf; rfl; (focus repeat (first | exact Nf.nil | apply Nf.cons)); intro bk) | (apply Stp_alloc; intro bk) | (apply Stp_buildSliceC; rfl; rfl; rfl; rfl; (focus repeat (first | exact Nf.nil | apply Nf.cons)); intro bk))) | refine walk ?_)
  rename_i b2
  generalize bk = b3
  refine W_nil 9 1 ?_
  refine W_loopF [(2, _), (3, _), (5, _), (16, _), (17, _)] [.mp bm mp, .blk b3 _ _, .blk b2 _ _] (fun g : AG ByteArray => [(18, .int .i64 g.k), (6, .slice g.A g.m g.c)]) (fun g => [.row (.slice g.A g.m g.c) 9 1 g.m g.xs])
    (fun g => g.k ≤ a.zones.length ∧ g.m = g.acc.length ∧ g.xs = g.acc.flatMap strEnc ∧ g.m ≤ g.k ∧ g.acc = ((a.zones.take g.k).filter fun z => o.all || memB z.name o.keep).map (·.name) ∧ g.m ≤ g.c ∧ g.c ≤ maxLen ∧ (0 < g.m → g.A ≠ none)) (fun g => a.zones.length - g.k) ⟨0, none, 0, 0, [], []⟩ (by repeat (first | exact trivial | refine ⟨rfl, ?_⟩)) (.refl _) ⟨by simp, rfl, rfl, Nat.le_refl _, by simp, Nat.le_refl _, Nat.zero_le _, fun h => absurd h (by simp)⟩ ?_
  rintro ⟨k, A2, c2, m2, x2, ac2⟩ ⟨hk2, hm2, hx2, hmk2, ha2, hcc1, hcc2, hcc3⟩
  dsimp only at hk2 hm2 hx2 hmk2 ha2 hcc1 hcc2 hcc3 ⊢
  repeat (first | (apply RL_st; rfl; (first | (apply Stp_boxNf; rfl; (focus repeat (first | exact Nf.nil | apply Nf.cons)); intro bk) | (apply Stp_alloc; intro bk) | (apply Stp_buildSliceC; rfl; rfl; rfl; rfl; (focus repeat (first | exact Nf.nil | apply Nf.cons)); intro bk))) | refine walk ?_)
  refine W_cond rfl (fun hc => ?_) (fun hc => ?_)
  · simp only [decide_eq_true_eq, Int.ofNat_lt] at hc
    obtain ⟨hna, cs1, ⟨Ae, ce, hE, rfl⟩, hca⟩ := hA.z k _ (List.getElem?_eq_getElem hc)
    have hnb := hna
    have hcb := hca
    have ht := take_filter hc (fun z : DZone => o.all || memB z.name o.keep)
    generalize a.zones[k] = z at *
    repeat (first | (apply RL_pu; rfl; (first | (apply Pu_indexAddr; rfl; rfl; omega; omega; (first | exact hna | exact hnb)) | (apply Pu_loadON; rfl; (first | exact hca | exact hcb); rfl) | (apply Pu_loadO1'; rfl; (first | exact hca | exact hcb); rfl) | (apply Pu_loadO1; rfl; (first | exact hca 0 _ rfl | exact hcb 0 _ rfl)))) | (apply RL_st; rfl; (first | (apply Stp_boxNf; rfl; (focus repeat (first | exact Nf.nil | apply Nf.cons)); intro bk) | (apply Stp_alloc; intro bk) | (apply Stp_buildSliceC; rfl; rfl; rfl; rfl; (focus repeat (first | exact Nf.nil | apply Nf.cons)); intro bk))) | refine walk1 ?_)
    refine RL_split 24 rfl (fun g2 => ?_) (fun g2 => ?_)
    · rw [g2] at ht
      simp only [Bool.true_or, if_true] at ht
      rw [g2] at ha2
      repeat (first | (apply RL_pu; rfl; (first | (apply Pu_indexAddr; rfl; rfl; omega; omega; (first | exact hna | exact hnb)) | (apply Pu_loadON; rfl; (first | exact hca | exact hcb); rfl) | (apply Pu_loadO1'; rfl; (first | exact hca | exact hcb); rfl) | (apply Pu_loadO1; rfl; (first | exact hca 0 _ rfl | exact hcb 0 _ rfl)))) | (apply RL_st0; (apply Stp_append; rfl; rfl; (intro A' c'; (focus repeat' constructor)); (intro w' _ hO; exact blkRaw (hO.of (by (focus repeat' constructor)))); rfl; rfl; (simp only [maxLen]; omega); omega; intro A' c' hc1 hc2 hc3)) | (apply RL_st; rfl; (first | (apply Stp_append; rfl; rfl; (intro A' c'; (focus repeat' constructor)); (intro w' _ hO; exact blkRaw (hO.of (by (focus repeat' constructor)))); rfl; rfl; (simp only [maxLen]; omega); omega; intro A' c' hc1 hc2 hc3) | (apply Stp_boxNf; rfl; (focus repeat (first | exact Nf.nil | apply Nf.cons)); intro bk) | (apply Stp_alloc; intro bk) | (apply Stp_buildSliceC; rfl; rfl; rfl; rfl; (focus repeat (first | exact Nf.nil | apply Nf.cons)); intro bk))) | refine walk1 ?_)
      exact ⟨⟨k + 1, A', c', m2 + 1, x2 ++ strEnc z.name, ac2 ++ [z.name]⟩, (by first | omega | (dsimp only; omega)), ⟨(by first | omega | (dsimp only; omega)), by simp [hm2], by rw [hx2]; exact flat_snoc ac2 _, (by first | omega | (dsimp only; omega)), by rw [g2]; simp only [Bool.true_or]; rw [ht, ha2]; simp, hc1, hc2, hc3⟩, (by repeat (first | exact trivial | refine ⟨rfl, ?_⟩)), (by first | exact .refl _ | focus repeat (first | exact SubO.nil | (apply SubO.cons; focus repeat' constructor)))⟩
    rw [g2] at ht
    rw [g2] at ha2
    simp only [Bool.false_or] at ht ha2
    have hpos := cntB_pos z.name o.keep
    repeat (first | (apply RL_pu; rfl; (first | (apply Pu_indexAddr; rfl; rfl; omega; omega; (first | exact hna | exact hnb)) | (apply Pu_loadON; rfl; (first | exact hca | exact hcb); rfl) | (apply Pu_loadO1'; rfl; (first | exact hca | exact hcb); rfl) | (apply Pu_loadO1; rfl; (first | exact hca 0 _ rfl | exact hcb 0 _ rfl)) | (apply Pu_lookupC; rfl; rfl; (focus repeat' constructor); exact hmp _))) | (apply RL_st; rfl; (first | (apply Stp_boxNf; rfl; (focus repeat (first | exact Nf.nil | apply Nf.cons)); intro bk) | (apply Stp_alloc; intro bk) | (apply Stp_buildSliceC; rfl; rfl; rfl; rfl; (focus repeat (first | exact Nf.nil | apply Nf.cons)); intro bk))) | refine walk1 ?_)
    refine W_cond rfl (fun g3 => ?_) (fun g3 => ?_)
    · have g3' : memB z.name o.keep = true := by rw [← hpos]; simpa using g3
      rw [g3'] at ht
      repeat (first | (apply RL_pu; rfl; (first | (apply Pu_indexAddr; rfl; rfl; omega; omega; (first | exact hna | exact hnb)) | (apply Pu_loadON; rfl; (first | exact hca | exact hcb); rfl) | (apply Pu_loadO1'; rfl; (first | exact hca | exact hcb); rfl) | (apply Pu_loadO1; rfl; (first | exact hca 0 _ rfl | exact hcb 0 _ rfl)))) | (apply RL_st0; (apply Stp_append; rfl; rfl; (intro A' c'; (focus repeat' constructor)); (intro w' _ hO; exact blkRaw (hO.of (by (focus repeat' constructor)))); rfl; rfl; (simp only [maxLen]; omega); omega; intro A' c' hc1 hc2 hc3)) | (apply RL_st; rfl; (first | (apply Stp_append; rfl; rfl; (intro A' c'; (focus repeat' constructor)); (intro w' _ hO; exact blkRaw (hO.of (by (focus repeat' constructor)))); rfl; rfl; (simp only [maxLen]; omega); omega; intro A' c' hc1 hc2 hc3) | (apply Stp_boxNf; rfl; (focus repeat (first | exact Nf.nil | apply Nf.cons)); intro bk) | (apply Stp_alloc; intro bk) | (apply Stp_buildSliceC; rfl; rfl; rfl; rfl; (focus repeat (first | exact Nf.nil | apply Nf.cons)); intro bk))) | refine walk1 ?_)
      exact ⟨⟨k + 1, A', c', m2 + 1, x2 ++ strEnc z.name, ac2 ++ [z.name]⟩, (by first | omega | (dsimp only; omega)), ⟨(by first | omega | (dsimp only; omega)), by simp [hm2], by rw [hx2]; exact flat_snoc ac2 _, (by first | omega | (dsimp only; omega)), by rw [g2]; simp only [Bool.false_or]; rw [ht, ha2]; simp, hc1, hc2, hc3⟩, (by repeat (first | exact trivial | refine ⟨rfl, ?_⟩)), (by first | exact .refl _ | focus repeat (first | exact SubO.nil | (apply SubO.cons; focus repeat' constructor)))⟩
    have g3' : memB z.name o.keep = false := by rw [← hpos]; simpa using g3
    rw [g3'] at ht
    repeat (first | (apply RL_st; rfl; (first | (apply Stp_boxNf; rfl; (focus repeat (first | exact Nf.nil | apply Nf.cons)); intro bk) | (apply Stp_alloc; intro bk) | (apply Stp_buildSliceC; rfl; rfl; rfl; rfl; (focus repeat (first | exact Nf.nil | apply Nf.cons)); intro bk))) | refine walk ?_)
    exact ⟨⟨k + 1, A2, c2, m2, x2, ac2⟩, (by first | omega | (dsimp only; omega)), ⟨(by first | omega | (dsimp only; omega)), hm2, hx2, (by first | omega | (dsimp only; omega)), by rw [g2]; simp only [Bool.false_or]; rw [ht, ha2]; simp, hcc1, hcc2, hcc3⟩, (by repeat (first | exact trivial | refine ⟨rfl, ?_⟩)), (by first | exact .refl _ | focus repeat (first | exact SubO.nil | (apply SubO.cons; focus repeat' constructor)))⟩
  simp only [decide_eq_false_iff_not, Int.ofNat_lt] at hc
  rw [List.take_of_length_le (by omega)] at ha2
  have ha2' : ac2 = candB a o := ha2
  subst ha2' hm2 hx2
  have hlen := sortB_length (candB a o)
  have hcomp : ∀ R, DoesIn Try.prog 58 [.slice A2 (candB a o).length c2] w (rowS A2 c2 (sortB (candB a o)) :: R) (fun v O => v = .slice A2 (cpt (sortB (candB a o)) (sortB (candB a o)).length).length c2 ∧ O = rowS A2 c2 (cpt (sortB (candB a o)) (sortB (candB a o)).length) :: R) := fun R => by
    rw [show [Value.slice A2 (candB a o).length c2] = [.slice A2 (sortB (candB a o)).length c2] from by rw [hlen]]
    exact compact_spec A2 c2 (sortB (candB a o)) w R (by omega) (by omega) hcc2 (fun h => hcc3 (by omega))
  repeat (first | (apply RL_st0; (first | (apply Stp_callIn (h := sort_spec A2 c2 (candB a o) w _ (by omega) hcc3); rfl; exact .refl _; rintro v O' rfl) | (apply Stp_callIn (h := hcomp _); rfl; exact .refl _; rintro v O' ⟨rfl, rfl⟩))) | (apply RL_st; rfl; (first | (apply Stp_callIn (h := sort_spec A2 c2 (candB a o) w _ (by omega) hcc3); rfl; exact .refl _; rintro v O' rfl) | (apply Stp_callIn (h := hcomp _); rfl; exact .refl _; rintro v O' ⟨rfl, rfl⟩) | (apply Stp_boxNf; rfl; (focus repeat (first | exact Nf.nil | apply Nf.cons)); intro bk) | (apply Stp_alloc; intro bk) | (apply Stp_buildSliceC; rfl; rfl; rfl; rfl; (focus repeat (first | exact Nf.nil | apply Nf.cons)); intro bk))) | refine walk ?_)
  exact ret_1 _ [_] (.tmp rfl) (.cons .here .nil) ⟨A2, c2, rfl, rfl⟩
end Go.Proofs.Ytfhjfpikngcknaa
