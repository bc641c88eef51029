/- Plain law: what AcceptMade asks of a draft. Contracts: links.Find. -/
import Derived.Test.YtbjkhnlnedfceaaGreatDoorU12
import Derived.Test.YtbjkhnlnedfceaaGreatDoorU21
import Derived.Test.YtbjkhnlnedfceaaGreatDoorU24
set_option maxHeartbeats 4000000
set_option linter.unusedVariables false
set_option linter.unusedSimpArgs false
namespace Go.Proofs.YtbjkhnlnedfceaaGreatDoor
open Go Go.RowKit Go.Wk
theorem made25_in1 (d : DDr) : inD (made25 d) 1 = none := by
 have h1 := made25_formsD d
 have h2 := made25_acc d
 unfold formsD at h1
 unfold inD
 rw [h2] at h1 ⊢
 have h3 : (1 : Int) ∈ [1, 2, 3].filter fun f => (varFault f (made25 d)).isNone := by
  rw [show (if (none : Option (DPlace × Int)).isSome = true then [] else [1, 2, 3].filter fun f => (varFault f (made25 d)).isNone) = [1, 2, 3].filter fun f => (varFault f (made25 d)).isNone from rfl] at h1
  rw [h1]
  split
  ·simp
  ·split <;> simp
 have h4 := (List.mem_filter.1 h3).2
 have h5 : varFault 1 (made25 d) = none := by
  cases h : varFault 1 (made25 d) with
  | none => rfl
  | some x => rw [h] at h4; cases h4
 rw [h5]
 rfl
def stGood (e : DEra) (x : Int × ByteArray) : Prop := (abbrF e.format.data.toList e.off x.1 x.2.data.toList).2 = 0 ∧ 3 ≤ (abbrF e.format.data.toList e.off x.1 x.2.data.toList).1.length ∧ (abbrF e.format.data.toList e.off x.1 x.2.data.toList).1.length ≤ 7 ∧ -54000 ≤ e.off + x.1 ∧ e.off + x.1 ≤ 54000 ∧ -54000 ≤ e.off ∧ e.off ≤ 54000 ∧ x.2.size ≤ 100
theorem DrEra.good {rs : List DRule} {e : DEra} {first : Bool} (h : DrEra rs e first) {x : Int × ByteArray} (hx : x ∈ statesOf rs e) : stGood e x := by
 obtain ⟨_, h2, h3, h4, h5⟩ := h.states
 have hb := h2 x hx
 have hl : x.2 ∈ [ByteArray.empty, (⟨#[83]⟩ : ByteArray), ⟨#[68]⟩, ⟨#[68, 84]⟩] := by
  unfold statesOf at hx
  split at hx
  ·rw [List.mem_singleton] at hx; subst hx; exact List.mem_cons_self
  ·split at hx
   ·obtain ⟨r, hr, rfl⟩ := List.mem_map.1 hx
    rcases h5 with h5 | h5
    ·rw [h5] at hr; cases hr
    ·exact (h5.rule r hr).letter
   ·rw [List.mem_singleton] at hx; subst hx; exact List.mem_cons_self
 have hz : x.2.size ≤ 100 := by
  simp only [List.mem_cons, List.not_mem_nil, or_false] at hl
  rcases hl with h | h | h | h <;> rw [h] <;> decide
 have ha := abbr_ok h.fmt e.off x.1 (lets_mem hl) (by omega)
 exact ⟨ha.1, ha.2, abbrF_len _ _ _ _, hb.1, hb.2, h3, h4, hz⟩
theorem made25_good (d : DDr) : ∀ z ∈ (made25 d).zones, ∀ e ∈ z.eras, (e.kind = 0 ∨ e.kind = 1 → statesOf (made25 d).rules e = [(e.save, ByteArray.empty)]) ∧ (e.kind = 0 ∨ e.kind = 1 ∨ e.kind = 2) ∧ ∀ x ∈ statesOf (made25 d).rules e, stGood e x := fun z hz e he => by
 obtain ⟨Y, hY⟩ := made25_zones d z hz
 obtain ⟨k, hk, rfl⟩ := List.mem_iff_getElem.1 he
 have hE := hY.era k _ (List.getElem?_eq_getElem hk)
 refine ⟨fun hkd => ?_, ?_, fun x hx => hE.good hx⟩
 ·rcases hE with ⟨h1, h2, _⟩ | ⟨h1, _⟩ | ⟨h1, _⟩
  ·unfold statesOf; rw [if_neg (by omega), if_neg (by omega), h2]
  ·unfold statesOf; rw [if_pos h1]
  ·omega
 ·rcases hE with ⟨h1, _⟩ | ⟨h1, _⟩ | ⟨h1, _⟩ <;> omega
theorem made25_namesOk (d : DDr) {ns : List ByteArray} (h : namesOk (made25 d) ns) : ns.length = (made25 d).zones.length + (made25 d).links.length ∧ ∀ x ∈ ns, (followD (made25 d) ((made25 d).links.length + 1) [] x).2 = 0 ∧ 0 ≤ (followD (made25 d) ((made25 d).links.length + 1) [] x).1 ∧ (followD (made25 d) ((made25 d).links.length + 1) [] x).1 < (made25 d).zones.length := by
 obtain ⟨h1, h2⟩ := h
 obtain ⟨a1, a2⟩ := made25_allN d
 have hz3 : d.nz ≤ 3 := by unfold DDr.nz; omega
 have hl3 : d.nls ≤ 3 := by unfold DDr.nls DDr.nl; split <;> omega
 have hm : ∀ x, x ∈ ns ↔ x ∈ draftN d.nz d.nls := fun x => by
  rw [h2 x, draftN, List.mem_append, ← a1, ← a2]
 have hnd : ns.Nodup := h1.imp fun hab e => by rw [e, less_irr] at hab; cases hab
 have hdd := draftN_nodup ⟨d.nz, by omega⟩ ⟨d.nls, by omega⟩
 have hp : ns.Perm (draftN d.nz d.nls) := (List.perm_ext_iff_of_nodup hnd hdd).2 hm
 refine ⟨?_, fun x hx => made25_find d x ((hm x).1 hx)⟩
 rw [hp.length_eq, draftN, ← a1, ← a2, List.length_append, List.length_map, List.length_map]
theorem made25_few (d : DDr) : (made25 d).zones.length + (made25 d).links.length ≤ 12 := by
 obtain ⟨a1, a2⟩ := made25_allN d
 have h1 := congrArg List.length a1
 have h2 := congrArg List.length a2
 rw [List.length_map, List.length_take] at h1 h2
 have h3 : zoneN25.length ≤ 4 := by decide
 have h4 : linkN25.length ≤ 4 := by decide
 omega
theorem SortS.at {l : List ByteArray} (h : SortS l) {k : Nat} {x y : ByteArray} (hx : l[k]? = some x) (hy : l[k + 1]? = some y) : lessB x y = true := by
 obtain ⟨h1, rfl⟩ := List.getElem?_eq_some_iff.1 hx
 obtain ⟨h2, rfl⟩ := List.getElem?_eq_some_iff.1 hy
 exact (List.pairwise_iff_getElem.1 h) k (k + 1) h1 h2 (Nat.lt_succ_self k)
end Go.Proofs.YtbjkhnlnedfceaaGreatDoor
set_option maxHeartbeats 4000000
namespace Go.Proofs.YtbjkhnlnedfceaaGreatDoor
open Go Go.RowKit Go.Wk
attribute [local irreducible] W RL Does thenQ blockQ retQ Calls Pu Stp RD Qy Ay DoesIn RLI WI
theorem lfind_spec (Ar Az Al As : Option Addr) (cr cz cl cs : Nat) (a : DSource) (name : ByteArray) (w : World) (hA : RdSource w Ar Az Al As cr cz cl cs a) (hn : a.zones.length + a.links.length ≤ 1000000) :
  Does Tryz.prog 22 [srcV Ar Az Al As cr cz cl cs a, .string name] w (fun v O => v = .tuple #[.int .i64 (followD a (a.links.length + 1) [] name).1, .int .i64 (followD a (a.links.length + 1) [] name).2] ∧ O = []) := by
 obtain ⟨res, hres⟩ : ∃ res, followD a (a.links.length + 1) [] name = res := ⟨_, rfl⟩
 rw [hres]
 refine Does_of_W Tryz.func22 rfl rfl rfl rfl ?_
 repeat (first | refine walk ?_ | (refine jg ?_; (try intro F); (first | (apply Stp_call (h := fun w' hw _ => lzones_spec Ar Az Al As cr cz cl cs a w' (hA.up hw) (by omega)); rfl; rintro v O' ⟨b1, m1, rfl, rfl, i1, d1, n1⟩) | (apply Stp_call (h := fun w' hw _ => ltargets_spec Ar Az Al As cr cz cl cs a w' (hA.up hw) (by omega)); rfl; rintro v O' ⟨b2, m2, rfl, rfl, i2, d2, n2⟩) | (refine callO (fun w' hw hO => follow_spec Ar Az Al As cr cz cl cs a b1 b2 m1 m2 name w' (hA.up hw) (hO.of (A := .mp b1 m1) (by repeat' constructor)) (hO.of (A := .mp b2 m2) (by repeat' constructor)) i1 i2 d2 n2) ?_) | (refine bx ?_; intro bk)); refine fin ?_) | (refine jn ?_; (try intro F); (first | (refine bx ?_; intro bk) | (apply Stp_pu; exact PuA)); refine fin ?_))
 rw [hres]
 exact rtB
end Go.Proofs.YtbjkhnlnedfceaaGreatDoor
