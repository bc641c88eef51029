/- Contracts: accept.In, Forms. Plain: sources of few and short parts; drafts are such; then accept's contract holds. Contracts: analemmalaw17.Draft (a list of bytes): at, clock, pair. Contract: analemmalaw17.Draft: pair. Contract: analemmalaw17.Draft: Made. -/
import Derived.Test.YtbjkhnlnedfceaaGreatDoorU35
import Derived.Test.YtbjkhnlnedfceaaGreatDoorU12
import Derived.Test.YtbjkhnlnedfceaaGreatDoorU17
import Derived.Test.YtbjkhnlnedfceaaGreatDoorU03
import Derived.Test.YtbjkhnlnedfceaaGreatDoorU13
set_option maxHeartbeats 4000000
set_option linter.unusedVariables false
set_option linter.unusedSimpArgs false
namespace Go.Proofs.YtbjkhnlnedfceaaGreatDoor
open Go Go.RowKit Go.Wk
attribute [local irreducible] W RL Does thenQ blockQ retQ Calls Pu Stp RD Qy Ay DoesIn
theorem accD_ne {s : DSource} {p : DPlace} {e : Int} (h : accD s = some (p, e)) : e ≠ 0 := by
 unfold accD at h
 cases h1 : sizesD s with
 | some x => rw [h1] at h; simp only [Option.some_or, Option.some.injEq] at h; subst h; exact sizesD_ne h1
 | none =>
  rw [h1, Option.none_or] at h
  cases h2 : setsD s with
  | some x => rw [h2] at h; simp only [Option.some_or, Option.some.injEq] at h; subst h; exact setsGo_ne _ _ h2
  | none =>
   rw [h2, Option.none_or] at h
   cases h3 : shiftsGo s s.shifts [] 0 with
   | some x => rw [h3] at h; simp only [Option.some_or, Option.some.injEq] at h; subst h; exact shiftsGo_ne _ _ _ _ h3
   | none =>
    rw [h3, Option.none_or] at h
    cases h4 : linksD s with
    | some x => rw [h4] at h; simp only [Option.some_or, Option.some.injEq] at h; subst h; exact linksD_ne h4
    | none =>
     rw [h4, Option.none_or] at h
     exact zonesGo_ne _ _ _ h
theorem varFault_ne {f : Int} {s : DSource} {p : DPlace} {e : Int} (h : varFault f s = some (p, e)) : e ≠ 0 := by
 unfold varFault at h
 dsimp only at h
 repeat' split at h
 all_goals first | (simp only [Option.some.injEq, Prod.mk.injEq] at h; omega) | cases h
structure AccOk (w : World) (Ar Az Al As : Option Addr) (cr cz cl cs : Nat) (a : DSource) : Prop where
 L : LibW w
 G : Glob w
 A : RdSource w Ar Az Al As cr cz cl cs a
 S : SrcOk a
 V : SavI a
 Z : ∀ z ∈ a.zones, ∀ e ∈ z.eras, EraOk e
theorem AccOk.up {w w' : World} {Ar Az Al As : Option Addr} {cr cz cl cs : Nat} {a : DSource} (h : AccOk w Ar Az Al As cr cz cl cs a) (hb : Bel w.heap.size w w') : AccOk w' Ar Az Al As cr cz cl cs a :=
 ⟨h.L.up hb, h.G.up hb, h.A.up hb, h.S, h.V, h.Z⟩
theorem accS {w : World} {Ar Az Al As : Option Addr} {cr cz cl cs : Nat} {a : DSource} (h : AccOk w Ar Az Al As cr cz cl cs a) : Does Tryz.prog 20 [srcV Ar Az Al As cr cz cl cs a] w (fun v O => v = ptV (accD a) ∧ O = []) :=
 acc_spec Ar Az Al As cr cz cl cs a w h.L h.G h.A h.S h.V h.Z
theorem varS {w : World} {Ar Az Al As : Option Addr} {cr cz cl cs : Nat} {a : DSource} (h : AccOk w Ar Az Al As cr cz cl cs a) (f : Int) : Does Tryz.prog 37 [srcV Ar Az Al As cr cz cl cs a, .int .i64 f] w (fun v O => v = ptV (varFault f a) ∧ O = []) :=
 varC_spec Ar Az Al As cr cz cl cs a f w h.L h.G h.A h.S fun z hz e he => (h.Z z hz e he).fmt
theorem PuInF0 {G : Prop} (h : G := by (apply Pu_neqB'; rfl; rfl; exact hb)) : G := h
theorem PuInF1 {G : Prop} (h : G := by (apply Pu_lssB; rfl; rfl; exact b1)) : G := h
theorem PuInF2 {G : Prop} (h : G := by (first | exact PuInF1 | (apply Pu_gtrB; rfl; rfl; exact b2))) : G := h
theorem inA_spec (Ar Az Al As : Option Addr) (cr cz cl cs : Nat) (a : DSource) (f : Int) (w : World) (h : AccOk w Ar Az Al As cr cz cl cs a) :
  Does Tryz.prog 15 [srcV Ar Az Al As cr cz cl cs a, .int .i64 f] w (fun v O => v = ptV (inD a f) ∧ O = []) := by
 have hac := fun w' (hw : Bel w.heap.size w w') => accS (h.up hw)
 have hva := fun w' (hw : Bel w.heap.size w w') => varS (h.up hw) f
 have hne := fun {p e} => @accD_ne a p e
 have hvb : (f < 1 ∨ 3 < f) → varFault f a = some (⟨0, 0, 0⟩, 2) := fun hb => by unfold varFault; rw [if_pos hb]
 unfold inD
 generalize accD a = o1 at *
 generalize varFault f a = o2 at *
 refine Does_of_W Tryz.func15 rfl rfl rfl rfl ?_
 cases o1 with
 | some x =>
  obtain ⟨⟨p1, p2, p3⟩, e⟩ := x
  have hb : (!decide (e = 0)) = true := by rw [decide_eq_false (hne rfl)]; rfl
  simp only [Option.some_or, ptV, plV, DPlace.enc] at hac ⊢
  repeat (first | (apply RL_pu; rfl; exact PuInF0) | (refine js ?_; (first | (refine callE hac ?_) | (refine bx ?_; intro bk))) | refine walk1 ?_)
  exact rtC
 | none =>
  rw [Option.none_or]
  by_cases h1 : f < 1
  ·have b1 : decide (f < 1) = true := decide_eq_true h1
   rw [hvb (.inl h1)]
   simp only [ptV, plV, DPlace.enc] at hac ⊢
   repeat (first | refine und ?_ | (apply RL_pu; rfl; exact PuInF1) | (refine js ?_; (first | (refine callE hac ?_) | (refine bx ?_; intro bk))) | refine walk1 ?_)
   exact rtC
  have b1 : decide (f < 1) = false := decide_eq_false h1
  by_cases h2 : 3 < f
  ·have b2 : decide (3 < f) = true := decide_eq_true h2
   rw [hvb (.inr h2)]
   simp only [ptV, plV, DPlace.enc] at hac ⊢
   repeat (first | refine und ?_ | (apply RL_pu; rfl; exact PuInF2) | (refine js ?_; (first | (refine callE hac ?_) | (refine bx ?_; intro bk))) | refine walk1 ?_)
   exact rtC
  have b2 : decide (3 < f) = false := decide_eq_false h2
  cases o2 with
  | none =>
   simp only [ptV, plV, DPlace.enc] at hac hva ⊢
   repeat (first | refine und ?_ | (apply RL_pu; rfl; exact PuInF2) | (refine js ?_; (first | (refine callE hac ?_) | (refine callE hva ?_) | (refine bx ?_; intro bk))) | refine walk1 ?_)
   exact rtC
  | some x =>
   obtain ⟨⟨p1, p2, p3⟩, e⟩ := x
   simp only [ptV, plV, DPlace.enc] at hac hva ⊢
   repeat (first | refine und ?_ | (apply RL_pu; rfl; exact PuInF2) | (refine js ?_; (first | (refine callE hac ?_) | (refine callE hva ?_) | (refine bx ?_; intro bk))) | refine walk1 ?_)
   exact rtC
structure FoG where
 k : Nat
 A : Option Addr
 c : Nat
 m : Nat
 ys : List Value
 acc : List Int
def okF (a : DSource) (f : Int) : Bool := (varFault f a).isNone
theorem f123 {k : Nat} (h : k < 3) : ([1, 2, 3] : List Int)[k]? = some ((k : Int) + 1) := by
 match k, h with
 | 0, _ => rfl
 | 1, _ => rfl
 | 2, _ => rfl
theorem PuInF3 {G : Prop} (h : G := by (apply Pu_leqB; rfl; rfl; exact b3)) : G := h
theorem formsA_spec (Ar Az Al As : Option Addr) (cr cz cl cs : Nat) (a : DSource) (w : World) (h : AccOk w Ar Az Al As cr cz cl cs a) :
  Does Tryz.prog 14 [srcV Ar Az Al As cr cz cl cs a] w (NewSl 3 1 iEnc (formsD a)) := by
 have hac := fun w' (hw : Bel w.heap.size w w') => accS (h.up hw)
 have hvf := fun f w' (hw : Bel w.heap.size w w') => varS (h.up hw) f
 have hne := fun {p e} => @accD_ne a p e
 unfold formsD
 generalize accD a = o1 at *
 refine Does_of_W Tryz.func14 rfl rfl rfl rfl ?_
 cases o1 with
 | some x =>
  obtain ⟨⟨p1, p2, p3⟩, e⟩ := x
  have hb : (!decide (e = 0)) = true := by rw [decide_eq_false (hne rfl)]; rfl
  rw [show (some ((⟨p1, p2, p3⟩ : DPlace), e)).isSome = true from rfl]
  simp only [if_true]
  simp only [ptV, plV, DPlace.enc] at hac
  refine W_nil 3 1 ?_
  repeat (first | (apply RL_pu; rfl; exact PuInF0) | (refine js ?_; (first | (refine callE hac ?_) | (refine bx ?_; intro bk))) | refine walk1 ?_)
  exact ret_1 _ [.row (.slice none 0 0) 3 1 0 []] (.tmp rfl) SOA ⟨none, 0, rfl, rfl⟩
 | none =>
  simp only [Option.isSome_none, Bool.false_eq_true, if_false]
  simp only [ptV, plV, DPlace.enc] at hac
  repeat (first | (refine js ?_; (first | (refine callE hac ?_) | (refine bx ?_; intro bk))) | refine walk ?_)
  obtain ⟨b3, hb3⟩ : ∃ b3, bk = b3 := ⟨_, rfl⟩
  rw [hb3]
  clear hb3 bk
  obtain ⟨b1, hb1⟩ : ∃ b1, bk = b1 := ⟨_, rfl⟩
  rw [hb1]
  clear hb1 bk
  refine W_nil 3 1 ?_
  refine W_loopF [(1, .pointer (some ⟨b1, 0, none⟩))] [.blk b1 [.slice Ar a.rules.length cr, .slice Az a.zones.length cz, .slice Al a.links.length cl, .slice As a.shifts.length cs] 31] (fun g : FoG => [(5, .slice g.A g.m g.c), (6, .int .i64 ((g.k : Int) + 1))]) (fun g => [.row (.slice g.A g.m g.c) 3 1 g.m g.ys])
   (fun g => g.k ≤ 3 ∧ g.m ≤ g.k ∧ g.m = g.acc.length ∧ g.ys = g.acc.flatMap iEnc ∧ g.acc = (([1, 2, 3] : List Int).take g.k).filter (okF a)) (fun g => 3 - g.k) ⟨0, none, 0, 0, [], []⟩ SFA SOA ⟨Nat.zero_le _, Nat.le_refl _, rfl, rfl, rfl⟩ ?_
  rintro ⟨k, A1, c1, m, ys, acc⟩ ⟨hk, hmk, hm, hy, hi⟩
  dsimp only at hk hmk hm hy hi ⊢
  by_cases hk3 : k < 3
  ·have b3 : decide ((k : Int) + 1 ≤ 3) = true := decide_eq_true (by omega)
   have hg := f123 hk3
   have hva := hvf ((k : Int) + 1)
   have htk : (([1, 2, 3] : List Int).take (k + 1)).filter (okF a) = acc ++ (if okF a ((k : Int) + 1) then [(k : Int) + 1] else []) := by
    rw [List.take_add_one, hg, List.filter_append, ← hi]
    congr 1
    simp only [Option.toList, List.filter_cons, List.filter_nil]
   rw [show okF a ((k : Int) + 1) = (varFault ((k : Int) + 1) a).isNone from rfl] at htk
   cases hv : varFault ((k : Int) + 1) a with
   | none =>
    rw [hv] at hva htk
    simp only [ptV, plV, DPlace.enc] at hva
    repeat (first | (apply RL_pu; rfl; exact PuInF3) | (refine js ?_; (first | (refine callE hva ?_) | (apply Stp_append; rfl; rfl; (intro A' c'; (focus repeat' constructor)); (intro w' _ hO; exact blkRaw (hO.of (by repeat' constructor))); rfl; rfl; (simp only [maxLen]; omega); omega; intro A' c' hc1 hc2 hc3) | (refine bx ?_; intro bk))) | refine walk1 ?_)
    refine ⟨⟨k + 1, A', c', m + 1, ys ++ [.int .i64 ((k : Int) + 1)], acc ++ [(k : Int) + 1]⟩, OA, ⟨OA, OA, by simp [hm], by rw [hy]; simp [iEnc], by dsimp only; rw [htk]; simp⟩, ?_, SOA⟩
    exact SFA
   | some x =>
    obtain ⟨⟨p1, p2, p3⟩, e⟩ := x
    have be : decide (e = 0) = false := decide_eq_false (varFault_ne hv)
    rw [hv] at hva htk
    simp only [ptV, plV, DPlace.enc] at hva
    repeat (first | (apply RL_pu; rfl; (first | exact PuInF3 | (apply Pu_eqlB; rfl; rfl; exact be))) | (refine js ?_; (first | (refine callE hva ?_) | (refine bx ?_; intro bk))) | refine walk1 ?_)
    refine ⟨⟨k + 1, A1, c1, m, ys, acc⟩, OA, ⟨OA, OA, hm, hy, by dsimp only; rw [htk]; simp⟩, ?_, SOA⟩
    exact SFA
  ·obtain rfl : k = 3 := by omega
   have b3 : decide (((3 : Nat) : Int) + 1 ≤ 3) = false := by decide
   subst hm hy
   repeat (first | (apply RL_pu; rfl; exact PuInF3) | (refine js ?_; (refine bx ?_; intro bk)) | refine walk1 ?_)
   exact ret_1 _ [.row (.slice A1 acc.length c1) 3 1 acc.length (acc.flatMap iEnc)] (.tmp rfl) SOA (by rw [show ([1, 2, 3].filter fun f => (varFault f a).isNone) = acc from hi.symm]; exact ⟨A1, c1, rfl, rfl⟩)
end Go.Proofs.YtbjkhnlnedfceaaGreatDoor
namespace Go.Proofs.YtbjkhnlnedfceaaGreatDoor
open Go Go.RowKit Go.Wk
structure SmE (e : DEra) : Prop where
 set : e.set.size ≤ 100
 fmt : e.format.size ≤ 100
 off : -1000000 ≤ e.off ∧ e.off ≤ 1000000
 save : -1000000 ≤ e.save ∧ e.save ≤ 1000000
 kind : -1000000 ≤ e.kind ∧ e.kind ≤ 1000000
structure Sml (s : DSource) : Prop where
 nr : s.rules.length ≤ 100
 nz : s.zones.length ≤ 100
 nl : s.links.length ≤ 100
 ns : s.shifts.length ≤ 100
 rs : ∀ r ∈ s.rules, r.name.size ≤ 100 ∧ r.letter.size ≤ 100 ∧ -1000000 ≤ r.save ∧ r.save ≤ 1000000
 zs : ∀ z ∈ s.zones, z.name.size ≤ 100 ∧ z.eras.length ≤ 100 ∧ ∀ e ∈ z.eras, SmE e
 ls : ∀ l ∈ s.links, l.target.size ≤ 100 ∧ l.name.size ≤ 100
theorem Sml.acc {w : World} {Ar Az Al As : Option Addr} {cr cz cl cs : Nat} {a : DSource} (h : Sml a) (hL : LibW w) (hG : Glob w) (hA : RdSource w Ar Az Al As cr cz cl cs a) : AccOk w Ar Az Al As cr cz cl cs a where
 L := hL
 G := hG
 A := hA
 S := ⟨by have := h.nr; omega, by have := h.nz; omega, by have := h.nl; omega, by have := h.ns; omega, fun r hr => by obtain ⟨h1, h2, _⟩ := h.rs r hr; omega, fun z hz => by
  obtain ⟨h1, h2, h3⟩ := h.zs z hz
  exact ⟨by omega, by omega, fun e he => by have h4 := (h3 e he).set; have h5 := (h3 e he).fmt; omega⟩, fun l hl => by obtain ⟨h1, h2⟩ := h.ls l hl; omega⟩
 V := fun r hr => by obtain ⟨_, _, h1, h2⟩ := h.rs r hr; omega
 Z := fun z hz e he => by
  have h1 := (h.zs z hz).2.2 e he
  have h2 := h1.off
  have h3 := h1.save
  have h4 := h1.kind
  have h5 := h1.fmt
  exact ⟨by unfold I64; omega, by unfold I64; omega, by unfold I64; omega, by omega⟩
theorem setN_size (j : Nat) : (setN25.getD j ByteArray.empty).size ≤ 100 := by
 rcases j with _ | _ | j
 ·decide
 ·decide
 ·exact Nat.zero_le _
theorem zoneN_size (j : Nat) : (zoneN25.getD j ByteArray.empty).size ≤ 100 := by
 rcases j with _ | _ | _ | j
 ·decide
 ·decide
 ·decide
 ·exact Nat.zero_le _
theorem linkN_size (j : Nat) : (linkN25.getD j ByteArray.empty).size ≤ 100 := by
 rcases j with _ | _ | _ | j
 ·decide
 ·decide
 ·decide
 ·exact Nat.zero_le _
theorem made25_dr (d : DDr) : ∀ r ∈ (made25 d).rules, DrRule r ∧ r.name.size ≤ 100 := fun r hr => by
 obtain ⟨j, h1, h2⟩ := rules25_names d.sets d.made r hr
 have hS := (rules25_set d.sets d.made (Nat.min_le_right _ _) j h1).1
 exact ⟨hS.rule r (List.mem_filter.2 ⟨hr, decide_eq_true h2⟩), h2 ▸ setN_size j⟩
theorem let_size {x : ByteArray} (h : x ∈ [ByteArray.empty, (⟨#[83]⟩ : ByteArray), ⟨#[68]⟩, ⟨#[68, 84]⟩]) : x.size ≤ 100 := by
 have : ∀ x ∈ [ByteArray.empty, (⟨#[83]⟩ : ByteArray), ⟨#[68]⟩, ⟨#[68, 84]⟩], x.size ≤ 100 := by decide
 exact this x h
theorem fmt_size {f : ByteArray} (h : f ∈ fmtU) : f.size ≤ 100 := by
 have h1 : ∀ f ∈ fmtU, f.size ≤ 100 := by decide
 exact h1 f h
theorem DrEra.sm {rs : List DRule} {e : DEra} {first : Bool} (h : DrEra rs e first) (hn : ∀ r ∈ rs, r.name.size ≤ 100) : SmE e := by
 refine ⟨?_, fmt_size h.fmt, ?_, ?_, ?_⟩
 ·rcases h with ⟨_, _, h, _⟩ | ⟨_, _, h, _⟩ | ⟨_, _, _, _, _, _, h, _⟩
  ·rw [h]; exact Nat.zero_le _
  ·rw [h]; exact Nat.zero_le _
  ·obtain ⟨_, _, _, ⟨r, hr, _⟩, _⟩ := h.saves
   obtain ⟨h1, h2⟩ := List.mem_filter.1 hr
   have h3 : r.name = e.set := by simpa using h2
   rw [← h3]
   exact hn r h1
 ·rcases h with ⟨_, _, _, h1, h2, _⟩ | ⟨_, _, _, h1, h2, _⟩ | ⟨_, _, _, h1, h2, _⟩ <;> omega
 ·rcases h with ⟨_, h1, _⟩ | ⟨_, h1, _⟩ | ⟨_, _, h1, _⟩ <;> omega
 ·rcases h with ⟨h1, _⟩ | ⟨h1, _⟩ | ⟨h1, _⟩ <;> omega
theorem lks_size (nz : Nat) (c : Nat → Nat) : ∀ n, ∀ l ∈ lks nz c n, l.target.size ≤ 100 ∧ l.name.size ≤ 100
 | 0, l, h => by cases h
 | n + 1, l, h => by
  rw [lks, List.mem_append, List.mem_singleton] at h
  rcases h with h | rfl
  ·exact lks_size nz c n l h
  ·refine ⟨?_, linkN_size n⟩
   show (lkT nz (c n) n).size ≤ 100
   unfold lkT
   split
   ·exact zoneN_size _
   ·exact linkN_size _
theorem zns_name : ∀ n, ∀ z ∈ zns n, z.name.size ≤ 100
 | 0, z, h => by cases h
 | n + 1, z, h => by
  rw [zns, List.mem_append, List.mem_singleton] at h
  rcases h with h | rfl
  ·exact zns_name n z h
  ·exact zoneN_size n
theorem made25_sml (d : DDr) : Sml (made25 d) := by
 have hm : d.made ≤ 2 := Nat.min_le_right _ _
 have hz3 : d.nz ≤ 3 := by unfold DDr.nz; omega
 have hl3 : d.nl ≤ 3 := by unfold DDr.nl; omega
 have h1 := rules25_len d.sets d.made
 have h2 := (zones25_rng d.L d.made d.nz).1
 have h3 := (links25_rng d.L (zones25 d.L d.made d.nz).1 (zones25 d.L d.made d.nz).2 d.nl).1
 have hb := zones25_bare d.L d.made d.nz
 refine ⟨?_, ?_, ?_, ?_, ?_, ?_, ?_⟩
 ·show (rules25 d.sets d.made).length ≤ 100
  omega
 ·show (zones25 d.L d.made d.nz).1.length ≤ 100
  omega
 ·unfold made25
  dsimp only
  split
  ·exact Nat.zero_le _
  ·omega
 ·exact Nat.zero_le _
 ·intro r hr
  obtain ⟨q1, q2⟩ := made25_dr d r hr
  have := q1.save
  exact ⟨q2, let_size q1.letter, by omega, by omega⟩
 ·intro z hz
  obtain ⟨Y, hY⟩ := made25_zones d z hz
  have hl := hY.len
  refine ⟨?_, by omega, fun e he => ?_⟩
  ·refine zns_name d.nz (bare' z) ?_
   rw [← hb]
   exact List.mem_map_of_mem hz
  ·obtain ⟨k, hk⟩ := List.getElem?_of_mem he
   exact (hY.era k e hk).sm fun r hr => (made25_dr d r hr).2
 ·by_cases h0 : d.nz = 0
  ·have : (made25 d).links = [] := by
    show (if d.nz = 0 then _ else _) = _
    rw [if_pos h0]
   rw [this]
   exact fun l hl => by cases hl
  ·obtain ⟨c, _, _, h4⟩ := links25_lks d.L _ d.nz hb (by omega) hz3 (zones25 d.L d.made d.nz).2 d.nl
   have : (made25 d).links = lks d.nz c d.nl := by
    show (if d.nz = 0 then _ else _) = _
    rw [if_neg h0, h4]
   rw [this]
   exact lks_size _ _ _
attribute [local irreducible] W RL Does thenQ blockQ retQ Calls Pu Stp RD Qy Ay DoesIn
def byEnc (n : Int) : List Value := [.int .u8 n]
theorem byEnc.len (n : Int) : (byEnc n).length = 1 := rfl
theorem at_spec (A : Option Addr) (c : Nat) (l : List Int) (i n : Int) (w : World) (hA : RdSl w A c byEnc 1 l) (hr : ∀ x ∈ l, inR .u8 x) (hi : 0 ≤ i) (hn : 0 < n) :
  Does Tryz.prog 39 [.slice A l.length c, .int .i64 i, .int .i64 n] w (fun v O => v = .int .i64 (atB l i n) ∧ O = []) := by
 have hs1 := hA.le
 have hs2 := hA.cap
 unfold maxLen at hs2
 refine Does_of_W Tryz.func39 rfl rfl rfl rfl ?_
 repeat (first | refine walk ?_)
 refine W_cond rfl (fun h => ?_) (fun h => ?_)
 ·repeat (first | refine walk ?_)
  exact ret_1 _ [] (.tmp rfl) .nil ⟨by simp at h; simp [atB, h], rfl⟩
 have h0 : l.length ≠ 0 := by simpa using h
 have hp : (0 : Int) < l.length := by omega
 have hm0 := Int.emod_nonneg i (b := (l.length : Int)) (by omega)
 have hm1 := Int.emod_lt_of_pos i hp
 have hk : (i % (l.length : Int)).toNat < l.length := by omega
 obtain ⟨hna, hca⟩ := hA.rd _ _ (List.getElem?_eq_getElem hk)
 have hv := hr _ (List.getElem_mem hk)
 have e : atB l i n = l[(i % (l.length : Int)).toNat] % n := by
  rw [atB, if_neg h0, List.getD_eq_getElem?_getD, List.getElem?_eq_getElem hk]
  rfl
 rw [e]
 generalize l[(i % (l.length : Int)).toNat] = r at *
 rw [inR_u8] at hv
 repeat (first | (apply RL_pu; rfl; exact PuI) | refine walk1 ?_)
 exact rtA
theorem clock_spec (A : Option Addr) (c : Nat) (l : List Int) (i : Int) (w : World) (hA : RdSl w A c byEnc 1 l) (hr : ∀ x ∈ l, inR .u8 x) (hi : 0 ≤ i) (hi2 : i ≤ 1000) :
  Does Tryz.prog 40 [.slice A l.length c, .int .i64 i] w (fun v O => v = .agg #[.int .i64 (clockB l i).sec, .int .i64 (clockB l i).base] ∧ O = []) := by
 have h1 := atB_range l i 49 (by decide)
 have h2 := atB_range l (i + 1) 3 (by decide)
 refine Does_of_W Tryz.func40 rfl rfl rfl rfl ?_
 repeat (first | (apply RL_pu; rfl; (apply Pu_mul; rfl; rfl; omega)) | (refine js ?_; (first | (refine callE (fun w' hw => at_spec A c l (i) 49 w' (hA.up hw) hr (by omega) (by omega)) ?_) | (refine callE (fun w' hw => at_spec A c l (i + 1) 3 w' (hA.up hw) hr (by omega) (by omega)) ?_) | (refine bx ?_; intro bk))) | refine walk1 ?_)
 exact ret_1 _ [] (.cellB rfl (by repeat' constructor) rfl rfl) .nil ⟨rfl, rfl⟩
theorem DDay.len3 (d : DDay) : d.enc.length = 3 := rfl
theorem PuDraft171 {G : Prop} (h : G := by (first | (apply Pu_loadO1; rfl; exact hp 0 _ rfl) | (apply Pu_mul; rfl; rfl; omega))) : G := h
theorem QyDraft171 {G : Prop} (h : G := by first | (apply Qy_y; rfl; exact PuDraft171) | exact QyA) : G := h
theorem QFDraft171 {G : Prop} (h : G := by repeat (first | exact QF.nil | (apply QF.mk; rfl; rfl; decide +kernel; exact QyDraft171))) : G := h
theorem PuDraft172 {G : Prop} (h : G := by (apply Pu_loadN (cs := (dayOf l i).enc); rfl; rfl; (intro w' _ hO; exact ((litRd (c := 3) (l := dayB l i) (t := 35) DDay.len3 (Nat.le_refl 3) (by decide) (hO.of (A := .blk bk ((dayB l i).flatMap DDay.enc) _) (by repeat' constructor))).rd _ _ hget).2))) : G := h
theorem QyDraft172 {G : Prop} (h : G := by first | (apply Qy_y; rfl; exact PuDraft172) | exact QyA) : G := h
theorem QFDraft172 {G : Prop} (h : G := by repeat (first | exact QF.nil | (apply QF.mk; rfl; rfl; decide +kernel; exact QyDraft172))) : G := h
theorem day17_spec (A : Option Addr) (c : Nat) (l : List Int) (i : Int) (ad : Addr) (w : World) (hA : RdSl w A c byEnc 1 l) (hr : ∀ x ∈ l, inR .u8 x) (hi : 0 ≤ i) (hi2 : i ≤ 1000) (hp : CellsAt w ad [.slice A l.length c]) :
  Does Tryz.prog 79 [.int .i64 i, .pointer (some ad)] w (fun v O => v = .agg #[.int .i64 (dayOf l i).kind, .int .i64 (dayOf l i).week, .int .i64 (dayOf l i).day] ∧ O = []) := by
 have h1 := atB_range l i 7 (by decide)
 have h2 := atB_range l (i + 1) 4 (by decide)
 have h3 := atB_range l (i + 1) 28 (by decide)
 have h4 := atB_range l (i + 2) 3 (by decide)
 refine Does_of_W Tryz.func79 rfl rfl rfl rfl ?_
 repeat (first | (apply RL_pu; rfl; exact PuDraft171) | (apply RD_Q; rfl; rfl; decide +kernel; rfl; rfl; exact QyDraft171) | refine walk1 ?_ | (refine jg ?_; (try intro F); (first | (refine callE (fun w' hw => at_spec A c l (i) 7 w' (hA.up hw) hr (by omega) (by omega)) ?_) | (refine callE (fun w' hw => at_spec A c l (i + 1) 4 w' (hA.up hw) hr (by omega) (by omega)) ?_) | (refine callE (fun w' hw => at_spec A c l (i + 1) 28 w' (hA.up hw) hr (by omega) (by omega)) ?_) | (refine callE (fun w' hw => at_spec A c l (i + 2) 3 w' (hA.up hw) hr (by omega) (by omega)) ?_) | (refine bx ?_; intro bk) | (refine stA ?_)); first | refine ⟨_, EndsA, QFDraft171, ?_⟩ | refine fin ?_) | (refine jn ?_; (try intro F); (first | (refine bx ?_; intro bk) | (refine stA ?_) | (apply Stp_pu; first | exact PuDraft171 | exact PuA)); first | refine ⟨_, EndsA, QFDraft171, ?_⟩ | refine fin ?_) | (apply RD_W; rfl; intro bk))
 have hget : (dayB l i)[(atB l (i + 2) 3).toNat]? = some (dayOf l i) := by
  have hk : (atB l (i + 2) 3).toNat < (dayB l i).length := by simp only [dayB, List.length_cons, List.length_nil]; omega
  rw [dayOf, List.getD_eq_getElem?_getD, List.getElem?_eq_getElem hk]
  rfl
 repeat (first | (apply RL_pu; rfl; exact PuDraft172) | (apply RD_Q; rfl; rfl; decide +kernel; rfl; rfl; exact QyDraft172) | refine walk1 ?_ | (refine jn ?_; (try intro F); (first | (refine bx ?_; intro bk) | (refine stA ?_) | (apply Stp_pu; first | exact PuDraft172 | exact PuA)); first | refine ⟨_, EndsA, QFDraft172, ?_⟩ | refine fin ?_) | (apply RD_W; rfl; intro bk))
 exact ret_1 _ [] (.cellB rfl (by repeat' constructor) rfl rfl) .nil ⟨rfl, rfl⟩
end Go.Proofs.YtbjkhnlnedfceaaGreatDoor
namespace Go.Proofs.YtbjkhnlnedfceaaGreatDoor
open Go Go.RowKit Go.Wk
attribute [local irreducible] W RL Does thenQ blockQ retQ Calls Pu Stp RD Qy Ay DoesIn atB dayOf clockB
theorem blkCells {w : World} {b : Nat} {cs : List Value} {t : TypeId} (h : (It.blk b cs t).sat w) : CellsAt w ⟨b, 0, none⟩ cs := fun j v hj => (blkRaw h j v hj).2
set_option maxHeartbeats 8000000 in
theorem pair17_spec (A : Option Addr) (c : Nat) (l : List Int) (i a b save : Int) (w : World) (hA : RdSl w A c byEnc 1 l) (hr : ∀ x ∈ l, inR .u8 x) (hi : 0 ≤ i) (hi2 : i ≤ 900) :
  Does Tryz.prog 41 [.slice A l.length c, .int .i64 i, .int .i64 a, .int .i64 b, .int .i64 save] w (fun v O => ∃ k, v = .slice (some ⟨k, 0, none⟩) 2 2 ∧ O = [.blk k ((pairB l i a b save).flatMap DRule.enc) 39]) := by
 have r1 := atB_range l i 3 (by decide)
 have r2 := atB_range l (i + 1) 3 (by decide)
 have r3 := atB_range l (i + 8) 3 (by decide)
 have r4 := atB_range l (i + 14) 2 (by decide)
 have r5 := atB_range l (i + 2) 4 (by decide)
 refine Does_of_W Tryz.func41 rfl rfl rfl rfl ?_
 repeat (first | refine walk0 ?_ | (refine jn ?_; (try intro F); (first | (refine bx ?_; intro bk) | (refine stA ?_) | (apply Stp_pu; exact PuA)); refine fin ?_) | (apply RD_W; rfl; intro bk))
 generalize bk = b5
 refine W_post (fun fr' O' => ∃ b1, Sub [(0, .slice A l.length c), (1, .int .i64 i), (2, .int .i64 a), (3, .int .i64 b), (4, .int .i64 save), (5, .pointer (some ⟨b5, 0, none⟩)), (11, .func (.func 79) #[] #[.pointer (some ⟨b5, 0, none⟩)]), (12, .pointer (some ⟨b1, 0, none⟩))] fr' ∧ SubO [.blk b1 (ruleA l i a b save).enc 39, .blk b5 [.slice A l.length c] 63] O') ?_ ?_
 ·repeat (first | refine walk ?_ | (refine jg ?_; (try intro F); (first | (refine callE (fun w' hw => at_spec A c l (i) 3 w' (hA.up hw) hr (by omega) (by omega)) ?_) | (refine callE (fun w' hw => at_spec A c l (i + 8) 3 w' (hA.up hw) hr (by omega) (by omega)) ?_) | (refine callE (fun w' hw => clock_spec A c l (i + 6) w' (hA.up hw) hr (by omega) (by omega)) ?_) | (apply Stp_callV (f := 79) (us := []) (cs := [.pointer (some ⟨b5, 0, none⟩)]) (vs := [.int .i64 (i + 3)]) (h := fun w' hw hO => day17_spec A c l (i + 3) ⟨b5, 0, none⟩ w' (hA.up hw) hr (by omega) (by omega) (blkCells (hO.of (A := .blk b5 _ _) (by repeat' constructor)))); rfl; rfl; rintro v O' ⟨rfl, rfl⟩) | (refine bx ?_; intro bk) | (refine stA ?_)); refine fin ?_) | (refine jn ?_; (try intro F); (first | (refine bx ?_; intro bk) | (refine stA ?_) | (apply Stp_pu; exact PuA)); refine fin ?_) | (apply RD_W; rfl; intro bk))
  exact ⟨rfl, _, SFA, SOA⟩
 rintro fr' O' ⟨b1, hf, hO⟩
 apply thenQ_n
 refine W_sub hf hO ?_
 repeat (first | refine walk0 ?_ | (refine jn ?_; (try intro F); (first | (refine bx ?_; intro bk) | (refine stA ?_) | (apply Stp_pu; exact PuA)); refine fin ?_) | (apply RD_W; rfl; intro bk))
 refine W_post (fun fr' O' => ∃ b2, Sub [(0, .slice A l.length c), (1, .int .i64 i), (2, .int .i64 a), (3, .int .i64 b), (4, .int .i64 save), (5, .pointer (some ⟨b5, 0, none⟩)), (11, .func (.func 79) #[] #[.pointer (some ⟨b5, 0, none⟩)]), (12, .pointer (some ⟨b1, 0, none⟩)), (13, .pointer (some ⟨b2, 0, none⟩))] fr' ∧ SubO [.blk b2 (ruleB l i a b 0).enc 39, .blk b1 (ruleA l i a b save).enc 39, .blk b5 [.slice A l.length c] 63] O') ?_ ?_
 ·repeat (first | refine walk ?_ | (refine jg ?_; (try intro F); (first | (refine callE (fun w' hw => at_spec A c l (i + 1) 3 w' (hA.up hw) hr (by omega) (by omega)) ?_) | (refine callE (fun w' hw => at_spec A c l (i + 14) 2 w' (hA.up hw) hr (by omega) (by omega)) ?_) | (refine callE (fun w' hw => clock_spec A c l (i + 12) w' (hA.up hw) hr (by omega) (by omega)) ?_) | (apply Stp_callV (f := 79) (us := []) (cs := [.pointer (some ⟨b5, 0, none⟩)]) (vs := [.int .i64 (i + 9)]) (h := fun w' hw hO => day17_spec A c l (i + 9) ⟨b5, 0, none⟩ w' (hA.up hw) hr (by omega) (by omega) (blkCells (hO.of (A := .blk b5 _ _) (by repeat' constructor)))); rfl; rfl; rintro v O' ⟨rfl, rfl⟩) | (refine bx ?_; intro bk) | (refine stA ?_)); refine fin ?_) | (refine jn ?_; (try intro F); (first | (refine bx ?_; intro bk) | (refine stA ?_) | (apply Stp_pu; exact PuA)); refine fin ?_) | (apply RD_W; rfl; intro bk))
  exact ⟨rfl, _, SFA, SOA⟩
 rintro fr' O' ⟨b2, hf, hO⟩
 apply thenQ_n
 refine W_sub hf hO ?_
 repeat (first | refine walk ?_ | (refine jg ?_; (try intro F); (first | (refine callE (fun w' hw => at_spec A c l (i + 2) 4 w' (hA.up hw) hr (by omega) (by omega)) ?_) | (refine bx ?_; intro bk) | (refine stA ?_)); refine fin ?_) | (refine jn ?_; (try intro F); (first | (refine bx ?_; intro bk) | (refine stA ?_) | (apply Stp_pu; exact PuA)); refine fin ?_) | (apply RD_W; rfl; intro bk))
 generalize hra : ruleA l i a b save = ra
 generalize hrb : ruleB l i a b 0 = rb
 refine W_sub (fr' := [(65, .bool (decide (atB l (i + 2) 4 = 0))), (12, .pointer (some ⟨b1, 0, none⟩)), (13, .pointer (some ⟨b2, 0, none⟩))]) SFA (show SubO [.blk b2 [.string rb.name, .int .i64 rb.from_, .int .i64 rb.to, .int .i64 rb.month, .int .i64 rb.day.kind, .int .i64 rb.day.week, .int .i64 rb.day.day, .int .i64 rb.at_.sec, .int .i64 rb.at_.base, .int .i64 rb.save, .string rb.letter] 39, .blk b1 [.string ra.name, .int .i64 ra.from_, .int .i64 ra.to, .int .i64 ra.month, .int .i64 ra.day.kind, .int .i64 ra.day.week, .int .i64 ra.day.day, .int .i64 ra.at_.sec, .int .i64 ra.at_.base, .int .i64 ra.save, .string ra.letter] 39] _ from SOA) ?_
 refine W_cond rfl (fun h => ?_) (fun h => ?_)
 ·have e : pairB l i a b save = [⟨ra.name, ra.from_, ra.to, ra.month, ra.day, ra.at_, rb.save, ra.letter⟩, ⟨rb.name, rb.from_, rb.to, rb.month, rb.day, rb.at_, ra.save, rb.letter⟩] := by
   rw [pairB, if_pos (by simpa using h), ← hra, ← hrb]
   rfl
  rw [e]
  repeat (first | refine walk ?_ | (refine jn ?_; (try intro F); (first | (refine bx ?_; intro bk) | (refine stA ?_) | (apply Stp_pu; exact PuA)); refine fin ?_) | (apply RD_W; rfl; intro bk))
  exact ret_1 _ [.blk bk (List.flatMap DRule.enc [⟨ra.name, ra.from_, ra.to, ra.month, ra.day, ra.at_, rb.save, ra.letter⟩, ⟨rb.name, rb.from_, rb.to, rb.month, rb.day, rb.at_, ra.save, rb.letter⟩]) 39] (.tmp rfl) SOA ⟨_, rfl, rfl⟩
 have e : pairB l i a b save = [ra, rb] := by rw [pairB, if_neg (by simpa using h), ← hra, ← hrb]
 rw [e]
 repeat (first | refine walk ?_ | (refine jn ?_; (try intro F); (first | (refine bx ?_; intro bk) | (refine stA ?_) | (apply Stp_pu; exact PuA)); refine fin ?_) | (apply RD_W; rfl; intro bk))
 exact ret_1 _ [.blk bk (List.flatMap DRule.enc [ra, rb]) 39] (.tmp rfl) SOA ⟨_, rfl, rfl⟩
end Go.Proofs.YtbjkhnlnedfceaaGreatDoor
namespace Go.Proofs.YtbjkhnlnedfceaaGreatDoor
open Go Go.RowKit Go.Wk
attribute [local irreducible] W RL Does thenQ blockQ retQ Calls Pu Stp RD Qy Ay DoesIn atB dayOf clockB pairB
def intEnc (n : Int) : List Value := [.int .i64 n]
theorem intEnc.len (n : Int) : (intEnc n).length = 1 := rfl
theorem name_lay (x : ByteArray) : ∀ (l : List DRule) (k : Nat) (r : DRule), l[k]? = some r → lay (l.flatMap DRule.enc) (k * 11) [.string x] = (l.take k ++ nameR x r :: l.drop (k + 1)).flatMap DRule.enc
 | [], k, r, h => by simp at h
 | a :: l, 0, r, h => by
  simp only [List.getElem?_cons_zero, Option.some.injEq] at h
  subst h
  simp [lay, nameR, DRule.enc]
 | a :: l, k + 1, r, h => by
  have ih := name_lay x l k r (by simpa using h)
  simp only [lay] at ih ⊢
  simp only [List.flatMap_cons, List.take_succ_cons, List.drop_succ_cons, List.cons_append]
  rw [← ih]
  rw [show (k + 1) * 11 = a.enc.length + k * 11 by rw [DRule.len]; omega, List.set_append_right _ _ (by omega), Nat.add_sub_cancel_left]
theorem take_map_drop {x : ByteArray} {l : List DRule} {k : Nat} (r : DRule) (hr : l[k]? = some r) : ((l.take k).map (nameR x) ++ l.drop k)[k]? = some r := by
 have hk := (List.getElem?_eq_some_iff.1 hr).1
 have e : ((l.take k).map (nameR x)).length = k := by rw [List.length_map, List.length_take]; omega
 rw [List.getElem?_append_right (by omega), e, Nat.sub_self, List.getElem?_drop]
 exact hr
theorem named_step (x : ByteArray) (l : List DRule) (k : Nat) (r : DRule) (hr : l[k]? = some r) :
  lay (((l.take k).map (nameR x) ++ l.drop k).flatMap DRule.enc) (k * 11 + 0) [.string x] = ((l.take (k + 1)).map (nameR x) ++ l.drop (k + 1)).flatMap DRule.enc := by
 have hk := (List.getElem?_eq_some_iff.1 hr).1
 have e : ((l.take k).map (nameR x)).length = k := by rw [List.length_map, List.length_take]; omega
 rw [Nat.add_zero, name_lay x _ k r (take_map_drop r hr), List.take_append_of_le_length (by omega), List.take_of_length_le (by omega)]
 congr 1
 rw [List.drop_append, List.drop_eq_nil_of_le (by omega), e, List.nil_append, List.drop_drop, List.take_add_one, List.map_append, List.append_assoc, hr, show k + (k + 1 - k) = k + 1 by omega]
 rfl
set_option maxHeartbeats 8000000 in
theorem made17_spec (A : Option Addr) (c : Nat) (l : List Int) (x : ByteArray) (w : World) (hA : RdSl w A c byEnc 1 l) (hr : ∀ x ∈ l, inR .u8 x) :
  Does Tryz.prog 18 [.slice A l.length c, .string x] w (fun v O => ∃ A' c', v = .slice A' (made17 l x).length c' ∧ O = [.row (.slice A' (made17 l x).length c') 39 11 (made17 l x).length ((made17 l x).flatMap DRule.enc)]) := by
 have r0 := atB_range l 0 5 (by decide)
 have r1 := atB_range l 1 80 (by decide)
 have r3 := atB_range l 3 28 (by decide)
 have r6 := atB_range l 6 12 (by decide)
 have r8 := atB_range l 8 5 (by decide)
 have r9 := atB_range l 9 6 (by decide)
 obtain ⟨q1, q2, q3⟩ := m1_rng l
 obtain ⟨q4, q5, q6⟩ := m2_rng l (m1 l).1 (m1 l).2 q1 q2 q3
 have hget : saves17[(atB l 0 5).toNat]? = some (save17 l) := by
  have hk : (atB l 0 5).toNat < saves17.length := by simp only [saves17, List.length_cons, List.length_nil]; omega
  rw [save17, List.getD_eq_getElem?_getD, List.getElem?_eq_getElem hk]
  rfl
 refine Does_of_W Tryz.func18 rfl rfl rfl rfl ?_
 repeat (first | (apply RL_pu; rfl; (apply Pu_load1 (v := .int .i64 (save17 l)); rfl; (intro w' _ hO; exact ((litRd (c := 5) (l := saves17) (t := 2) intEnc.len (Nat.le_refl 5) (by decide) (hO.of (A := .blk bk (saves17.flatMap intEnc) _) (by repeat' constructor))).rd _ _ hget).2 0 _ rfl))) | (refine js ?_; (first | (refine callE (fun w' hw => at_spec A c l 0 5 w' (hA.up hw) hr (by omega) (by omega)) ?_) | (refine callE (fun w' hw => at_spec A c l 1 80 w' (hA.up hw) hr (by omega) (by omega)) ?_) | (refine callE (fun w' hw => at_spec A c l 2 3 w' (hA.up hw) hr (by omega) (by omega)) ?_) | (refine bx ?_; intro bk))) | refine walk1 ?_)
 refine W_nil 39 11 ?_
 refine W_post (fun fr' O' => ∃ A' c' n xs, (n = (m1 l).1.length ∧ xs = (m1 l).1.flatMap DRule.enc) ∧ Sub [(0, .slice A l.length c), (1, .string x), (5, .int .i64 (save17 l)), (6, .int .i64 (m1 l).2), (7, .slice A' n c')] fr' ∧ SubO [.row (.slice A' n c') 39 11 n xs] O') ?_ ?_
 ·refine W_cond rfl (fun h => ?_) (fun h => ?_)
  ·have e : m1 l = ([one17 l (1900 + atB l 1 80)], 1900 + atB l 1 80 + 1) := by rw [m1, if_pos (by simpa using h)]
   repeat (first | (refine js ?_; (first | (refine callE (fun w' hw => at_spec A c l 3 28 w' (hA.up hw) hr (by omega) (by omega)) ?_) | (refine callE (fun w' hw => clock_spec A c l 4 w' (hA.up hw) hr (by omega) (by omega)) ?_) | (apply Stp_append; rfl; rfl; (intro A' c'; (focus repeat' constructor)); (intro w' _ hO; exact blkRaw (hO.of (by repeat' constructor))); rfl; rfl; (simp only [maxLen]; omega); omega; intro A' c' hc1 hc2 hc3) | (refine bx ?_; intro bk))) | refine walk ?_)
   rw [e]
   exact ⟨rfl, A', c', 0 + 1, [] ++ (one17 l (1900 + atB l 1 80)).enc, ⟨rfl, rfl⟩, SFA, SOA⟩
  have e : m1 l = ([], 1900 + atB l 1 80) := by rw [m1, if_neg (by simpa using h)]
  repeat (first | (refine js ?_; (refine bx ?_; intro bk)) | refine walk ?_)
  rw [e]
  exact ⟨rfl, none, 0, 0, [], ⟨rfl, rfl⟩, SFA, SOA⟩
 rintro fr' O' ⟨A1, c1, n1, x1, ⟨hn1, hx1⟩, hf, hO⟩
 apply thenQ_n
 refine W_sub hf hO ?_
 clear hf hO fr' O'
 repeat (first | (refine js ?_; (first | (refine callE (fun w' hw => at_spec A c l 5 2 w' (hA.up hw) hr (by omega) (by omega)) ?_) | (refine bx ?_; intro bk))) | refine walk ?_)
 rw [made17]
 generalize m1 l = g1 at *
 obtain ⟨o1, f1⟩ := g1
 dsimp only at *
 refine W_post (fun fr' O' => ∃ A' c' n xs, (n = (m2 l o1 f1).1.length ∧ xs = (m2 l o1 f1).1.flatMap DRule.enc) ∧ Sub [(0, .slice A l.length c), (1, .string x), (5, .int .i64 (save17 l)), (6, .int .i64 (m2 l o1 f1).2), (7, .slice A' n c')] fr' ∧ SubO [.row (.slice A' n c') 39 11 n xs] O') ?_ ?_
 ·refine W_cond rfl (fun h => ?_) (fun h => ?_)
  ·have e : m2 l o1 f1 = (o1 ++ pairB l 7 f1 (f1 + atB l 6 12) (save17 l), f1 + atB l 6 12 + 1 + atB l 8 5) := by rw [m2, if_pos (by simpa using h)]
   repeat (first | (refine js ?_; (first | (refine callE (fun w' hw => at_spec A c l 6 12 w' (hA.up hw) hr (by omega) (by omega)) ?_) | (refine callE (fun w' hw => at_spec A c l 8 5 w' (hA.up hw) hr (by omega) (by omega)) ?_) | (apply Stp_call (h := fun w' hw _ => pair17_spec A c l 7 f1 (f1 + atB l 6 12) (save17 l) w' (hA.up hw) hr (by omega) (by omega)); rfl; rintro v O' ⟨k1, rfl, rfl⟩) | (apply Stp_append; rfl; rfl; (intro A' c'; (focus repeat' constructor)); (intro w' _ hO; exact blkRaw (hO.of (by repeat' constructor))); (rw [flat_len DRule.len, pairB_len]); exact all_flat oneR _; (simp only [maxLen]; omega); omega; intro A' c' hc1 hc2 hc3) | (refine bx ?_; intro bk))) | refine walk ?_)
   rw [e]
   exact ⟨rfl, A', c', n1 + 2, x1 ++ _, ⟨by rw [List.length_append, pairB_len, hn1], by rw [List.flatMap_append, hx1]⟩, SFA, SOA⟩
  have e : m2 l o1 f1 = (o1, f1) := by rw [m2, if_neg (by simpa using h)]
  repeat (first | (refine js ?_; (refine bx ?_; intro bk)) | refine walk ?_)
  rw [e]
  exact ⟨rfl, A1, c1, n1, x1, ⟨hn1, hx1⟩, SFA, SOA⟩
 rintro fr' O' ⟨A2, c2, n2, x2, ⟨hn2, hx2⟩, hf, hO⟩
 apply thenQ_n
 refine W_sub hf hO ?_
 clear hf hO fr' O'
 generalize m2 l o1 f1 = g2 at *
 obtain ⟨o2, f2⟩ := g2
 dsimp only at *
 repeat (first | (refine js ?_; (first | (refine callE (fun w' hw => at_spec A c l 9 6 w' (hA.up hw) hr (by omega) (by omega)) ?_) | (refine callE (fun w' hw => at_spec A c l 10 3 w' (hA.up hw) hr (by omega) (by omega)) ?_) | (refine bx ?_; intro bk))) | refine walk ?_)
 refine W_post (fun fr' O' => Sub [(0, .slice A l.length c), (1, .string x), (5, .int .i64 (save17 l)), (6, .int .i64 f2), (7, .slice A2 n2 c2), (9, .int .i64 (to17 l f2))] fr' ∧ SubO [.row (.slice A2 n2 c2) 39 11 n2 x2] O') ?_ ?_
 ·refine W_cond rfl (fun h => ?_) (fun h => ?_)
  ·have e : to17 l f2 = 1048576 := by rw [to17, if_pos (by simpa using h)]
   repeat (first | (refine js ?_; (refine bx ?_; intro bk)) | refine walk ?_)
   rw [e]
   exact ⟨rfl, SFA, SOA⟩
  have e : to17 l f2 = f2 + atB l 9 6 := by rw [to17, if_neg (by simpa using h)]
  repeat (first | (refine js ?_; (refine bx ?_; intro bk)) | refine walk ?_)
  rw [e]
  exact ⟨rfl, SFA, SOA⟩
 rintro fr' O' ⟨hf, hO⟩
 apply thenQ_n
 refine W_sub hf hO ?_
 clear hf hO fr' O'
 repeat (first | (refine js ?_; (first | (apply Stp_call (h := fun w' hw _ => pair17_spec A c l 11 f2 (to17 l f2) (save17 l) w' (hA.up hw) hr (by omega) (by omega)); rfl; rintro v O' ⟨k1, rfl, rfl⟩) | (apply Stp_append; rfl; rfl; (intro A' c'; (focus repeat' constructor)); (intro w' _ hO; exact blkRaw (hO.of (by repeat' constructor))); (rw [flat_len DRule.len, pairB_len]); exact all_flat oneR _; (simp only [maxLen]; omega); omega; intro A' c' hc1 hc2 hc3) | (refine bx ?_; intro bk))) | refine walk ?_)
 obtain ⟨o3, ho3⟩ : ∃ o3, m3 l o2 f2 = o3 := ⟨_, rfl⟩
 have hx3 : x2 ++ (pairB l 11 f2 (to17 l f2) (save17 l)).flatMap DRule.enc = o3.flatMap DRule.enc := by rw [← ho3, m3, List.flatMap_append, hx2]
 have hn3 : n2 + 2 = o3.length := by rw [← ho3, m3, List.length_append, pairB_len, hn2]
 have hn5 : o3.length ≤ 5 := by omega
 rw [ho3, hx3, hn3]
 have hAn : A' ≠ none := hc3 (by omega)
 refine W_loopF [(1, .string x), (7, .slice A' o3.length c'), (70, .int .i64 o3.length)] [] (fun k : Nat => [(71, .int .i64 k)]) (fun k => [.row (.slice A' o3.length c') 39 11 o3.length (((o3.take k).map (nameR x) ++ o3.drop k).flatMap DRule.enc)]) (fun k => k ≤ o3.length) (fun k => o3.length - k) 0 SFA SOA (Nat.zero_le _) ?_
 intro k hk
 repeat (first | (refine js ?_; (refine bx ?_; intro bk)) | refine walk ?_)
 refine W_cond rfl (fun h => ?_) (fun h => ?_)
 ·have hk2 : k < o3.length := by simpa using h
  have hll : (((o3.take k).map (nameR x) ++ o3.drop k).flatMap DRule.enc).length = o3.length * 11 := by
   rw [flat_len DRule.len, List.length_append, List.length_map, List.length_take, List.length_drop, Nat.min_eq_left hk]
   congr 1; omega
  repeat (first | (apply RL_pu; rfl; (first | (apply Pu_indexAddr; rfl; rfl; omega; omega; exact hAn) | (apply Pu_fieldAddrA; rfl))) | (refine js ?_; (first | (apply Stp_storeR; rfl; rfl; (focus repeat' constructor); rfl; rfl; rfl; (rw [hll]; omega); decide; exact named_step x o3 k _ (List.getElem?_eq_getElem hk2)) | (refine bx ?_; intro bk))) | refine walk1 ?_)
  exact ⟨k + 1, OA, OA, SFA, SOA⟩
 have hk2 : k = o3.length := by simp only [decide_eq_false_iff_not] at h; omega
 subst hk2
 repeat (first | (refine js ?_; (refine bx ?_; intro bk)) | refine walk ?_)
 have e : (o3.take o3.length).map (nameR x) ++ o3.drop o3.length = o3.map (nameR x) := by rw [List.take_length, List.drop_length, List.append_nil]
 rw [e]
 refine ret_1 _ [.row (.slice A' (o3.map (nameR x)).length c') 39 11 (o3.map (nameR x)).length ((o3.map (nameR x)).flatMap DRule.enc)] (.tmp (v := .slice A' (o3.map (nameR x)).length c') (by rw [List.length_map]; rfl)) (by rw [List.length_map]; exact SOA) ⟨A', c', rfl, rfl⟩
end Go.Proofs.YtbjkhnlnedfceaaGreatDoor
