/- Contracts: links.named, links.Check. -/
import Derived.Test.YtbffjibfcgcoeaaGreatDoorQ11
import Derived.Test.YtbffjibfcgcoeaaGreatDoorQ17
set_option linter.unusedVariables false
set_option linter.unusedSimpArgs false
namespace Go.Wk
open Go Go.RowKit
/-- A source of modest sizes. -/
structure SrcOk (s : DSource) : Prop where
  nr : s.rules.length ≤ 1000000
  nz : s.zones.length ≤ 1000000
  nl : s.links.length ≤ 1000000
  ns : s.shifts.length ≤ 1000000
  rs : ∀ r ∈ s.rules, r.name.size ≤ 1000000000 ∧ r.letter.size ≤ 1000000000
  zs : ∀ z ∈ s.zones, z.name.size ≤ 1000000000 ∧ z.eras.length ≤ 1000000 ∧ ∀ e ∈ z.eras, e.set.size ≤ 1000000000 ∧ e.format.size ≤ 1000000000
  ls : ∀ l ∈ s.links, l.target.size ≤ 1000000000 ∧ l.name.size ≤ 1000000000
def plV (p : DPlace) : Value := .agg (DPlace.enc p).toArray
/-- A fault, or none. -/
def ptV : Option (DPlace × Int) → Value
  | none => .tuple #[plV ⟨0, 0, 0⟩, .int .i64 0]
  | some (p, e) => .tuple #[plV p, .int .i64 e]
end Go.Wk
namespace Go.Proofs.YtbffjibfcgcoeaaGreatDoor
open Go Go.RowKit Go.Wk
attribute [local irreducible] W RL Does thenQ blockQ retQ Calls Pu Stp RD Qy Ay DoesIn
theorem named_spec (Ar Az Al As : Option Addr) (cr cz cl cs : Nat) (a : DSource) (b1 : Nat) (mk : List (ByteArray × Value)) (w : World) (hA : RdSource w Ar Az Al As cr cz cl cs a) (hS : SrcOk a) (h1 : MpAt w b1 mk) (hk : IxM mk fun x => firstZ x a.zones 0) :
    Does Tryz.prog 160 [srcV Ar Az Al As cr cz cl cs a, .map (some b1)] w (fun v O => v = ptV (zoneFault a a.zones 0) ∧ O = []) := by
  have hn := hS.nz
  obtain ⟨res, hres⟩ : ∃ res, zoneFault a a.zones 0 = res := ⟨_, rfl⟩
  rw [hres]
  refine Does_of_W Tryz.func160 rfl rfl rfl rfl ?_
  repeat (first | (apply RL_st; rfl; (first | (apply Stp_boxNf; rfl; (focus repeat (first | exact Nf.nil | apply Nf.cons)); intro bk) | (apply Stp_alloc; intro bk))) | refine walk ?_)
  refine W_loopF [(1, .map (some b1)), (4, .pointer (some ⟨bk, 0, none⟩)), (10, .slice Az a.zones.length cz), (11, .int .i64 a.zones.length)] [.blk bk [.int .i64 0, .int .i64 0, .int .i64 0] 31] (fun k : Nat => [(12, .int .i64 k)]) (fun _ => []) (fun k => k ≤ a.zones.length ∧ zoneFault a (a.zones.drop k) k = res) (fun k => a.zones.length - k) 0 (by repeat (first | exact trivial | refine ⟨rfl, ?_⟩)) (by first | exact .refl _ | focus repeat (first | exact SubO.nil | (apply SubO.cons; focus repeat' constructor))) ⟨Nat.zero_le _, hres⟩ ?_
  rintro k ⟨hkl, hi⟩
  obtain ⟨b4, hb4⟩ : ∃ b4, bk = b4 := ⟨_, rfl⟩
  rw [hb4] at *
  clear hb4 bk
  repeat (first | (apply RL_st; rfl; (first | (apply Stp_boxNf; rfl; (focus repeat (first | exact Nf.nil | apply Nf.cons)); intro bk) | (apply Stp_alloc; intro bk))) | refine walk ?_)
  refine W_cond rfl (fun hc => ?_) (fun hc => ?_)
  · simp only [decide_eq_true_eq, Int.ofNat_lt] at hc
    obtain ⟨hna, cs1, ⟨Ae, ce, _, rfl⟩, hca⟩ := hA.z k _ (List.getElem?_eq_getElem hc)
    have hmem := List.getElem_mem hc
    rw [drop_cons hc, zoneFault] at hi
    generalize a.zones[k] = z at *
    have hsz := (hS.zs z hmem).1
    obtain ⟨j, hj⟩ := firstZ_mem 0 hmem
    obtain ⟨hv0, _⟩ := hk.some hj
    have hzn := fun w' => zone_spec z.name (by omega) w'
    rw [hj] at hi
    generalize zoneB z.name = zb at *
    cases zb with
    | false =>
      rw [if_pos rfl] at hi
      subst hi
      repeat (first | (apply RL_pu; rfl; (first | (apply Pu_indexAddr; rfl; rfl; omega; omega; exact hna) | (apply Pu_loadON; rfl; exact hca; rfl) | (apply Pu_loadO1'; rfl; exact hca; rfl) | (apply Pu_loadO1; rfl; exact hca 0 _ rfl))) | (apply RL_st0; (apply Stp_call (h := fun w' hw _ => hzn w'); rfl; rintro v O' ⟨rfl, rfl⟩)) | (apply RL_st; rfl; (first | (apply Stp_call (h := fun w' hw _ => hzn w'); rfl; rintro v O' ⟨rfl, rfl⟩) | (apply Stp_boxNf; rfl; (focus repeat (first | exact Nf.nil | apply Nf.cons)); intro bk) | (apply Stp_alloc; intro bk))) | refine walk1 ?_)
      exact ret_2 _ _ [] (.cellB rfl (by (focus repeat' constructor)) rfl rfl) (.tmp rfl) .nil ⟨rfl, rfl⟩
    | true =>
      rw [if_neg (by decide)] at hi
      repeat (first | (apply RL_pu; rfl; (first | (apply Pu_indexAddr; rfl; rfl; omega; omega; exact hna) | (apply Pu_loadON; rfl; exact hca; rfl) | (apply Pu_loadO1'; rfl; exact hca; rfl) | (apply Pu_loadO1; rfl; exact hca 0 _ rfl) | (apply Pu_lookupOld; rfl; rfl; exact h1; exact hv0))) | (apply RL_st0; (apply Stp_call (h := fun w' hw _ => hzn w'); rfl; rintro v O' ⟨rfl, rfl⟩)) | (apply RL_st; rfl; (first | (apply Stp_call (h := fun w' hw _ => hzn w'); rfl; rintro v O' ⟨rfl, rfl⟩) | (apply Stp_boxNf; rfl; (focus repeat (first | exact Nf.nil | apply Nf.cons)); intro bk) | (apply Stp_alloc; intro bk))) | refine walk1 ?_)
      refine W_cond rfl (fun h2 => ?_) (fun h2 => ?_)
      · simp only [Bool.not_eq_true', decide_eq_false_iff_not] at h2
        rw [if_pos (fun e => h2 (by simp only [Option.some.injEq] at e; omega))] at hi
        subst hi
        repeat (first | (apply RL_st; rfl; (first | (apply Stp_boxNf; rfl; (focus repeat (first | exact Nf.nil | apply Nf.cons)); intro bk) | (apply Stp_alloc; intro bk))) | refine walk ?_)
        exact ret_2 _ _ [] (.cellB rfl (by (focus repeat' constructor)) rfl rfl) (.tmp rfl) .nil ⟨rfl, rfl⟩
      · simp only [Bool.not_eq_false', decide_eq_true_eq] at h2
        rw [if_neg (fun e => e (by congr 1; omega))] at hi
        repeat (first | (apply RL_st; rfl; (first | (apply Stp_boxNf; rfl; (focus repeat (first | exact Nf.nil | apply Nf.cons)); intro bk) | (apply Stp_alloc; intro bk))) | refine walk ?_)
        exact ⟨k + 1, (by first | omega | (dsimp only; omega)), ⟨(by first | omega | (dsimp only; omega)), hi⟩, (by repeat (first | exact trivial | refine ⟨rfl, ?_⟩)), (by first | exact .refl _ | focus repeat (first | exact SubO.nil | (apply SubO.cons; focus repeat' constructor)))⟩
  · simp only [decide_eq_false_iff_not, Int.ofNat_lt] at hc
    rw [List.drop_eq_nil_of_le (by omega), zoneFault] at hi
    subst hi
    repeat (first | (apply RL_st; rfl; (first | (apply Stp_boxNf; rfl; (focus repeat (first | exact Nf.nil | apply Nf.cons)); intro bk) | (apply Stp_alloc; intro bk))) | refine walk ?_)
    exact ret_2 _ _ [] (.cellB rfl (by (focus repeat' constructor)) rfl rfl) (.tmp rfl) .nil ⟨rfl, rfl⟩
theorem IxM.any {m : List (ByteArray × Value)} {f : ByteArray → Option Nat} (h : IxM m f) (x : ByteArray) : ∃ n : Int, (mget m x).getD (.int .i64 0) = .int .i64 n ∧ (mget m x).isSome = (f x).isSome := by
  rw [h x]
  cases f x with
  | none => exact ⟨0, rfl, rfl⟩
  | some i => exact ⟨i, rfl, rfl⟩
theorem zoneFault_ne (s : DSource) : ∀ (l : List DZone) (i : Nat) (p : DPlace) (e : Int), zoneFault s l i = some (p, e) → e ≠ 0
  | [], _, _, _, h => by cases h
  | z :: l, i, p, e, h => by
    simp only [zoneFault] at h
    split at h
    · simp only [Option.some.injEq, Prod.mk.injEq] at h; omega
    · split at h
      · simp only [Option.some.injEq, Prod.mk.injEq] at h; omega
      · exact zoneFault_ne s l _ p e h
theorem links_spec (Ar Az Al As : Option Addr) (cr cz cl cs : Nat) (a : DSource) (w : World) (hA : RdSource w Ar Az Al As cr cz cl cs a) (hS : SrcOk a) :
    Does Tryz.prog 105 [srcV Ar Az Al As cr cz cl cs a] w (fun v O => v = ptV (linksD a) ∧ O = []) := by
  have hnz := hS.nz
  have hnl := hS.nl
  have hnm := fun bm mk w' (h0 : RdSource w' Ar Az Al As cr cz cl cs a) => named_spec Ar Az Al As cr cz cl cs a bm mk w' h0 hS
  refine Does_of_W Tryz.func105 rfl rfl rfl rfl ?_
  repeat (first | (apply RL_st; rfl; (first | (apply Stp_boxNf; rfl; (focus repeat (first | exact Nf.nil | apply Nf.cons)); intro bk) | (apply Stp_alloc; intro bk))) | refine walk0 ?_ | (refine RD_Lw ?_; intro F; (first | (apply Stp_boxNf; rfl; (focus repeat (first | exact Nf.nil | apply Nf.cons)); intro bk) | (apply Stp_alloc; intro bk) | (apply Stp_storeNf; rfl; rfl; (focus repeat' constructor); (focus repeat (first | exact Nf.nil | apply Nf.cons)); rfl; rfl; rfl; (focus repeat' constructor)) | (apply Stp_pu; exact PuA)); refine ⟨_, EndsA, QFA, ?_⟩) | (apply RD_W; rfl; intro bk))
  rename_i b1
  obtain ⟨b2, hb2⟩ : ∃ b2, bk = b2 := ⟨_, rfl⟩
  rw [hb2]
  clear hb2 bk
  repeat (first | (apply RL_st0; (first | (apply Stp_call (h := fun w' hw _ => lzones_spec Ar Az Al As cr cz cl cs a w' (hA.up hw) hnz); rfl; rintro v O' ⟨bm, mk, rfl, rfl, hk, hkd, hkl⟩) | (apply Stp_call (h := fun w' hw _ => ltargets_spec Ar Az Al As cr cz cl cs a w' (hA.up hw) hnl); rfl; rintro v O' ⟨bl, ml, rfl, rfl, hl, hld, hll⟩))) | (apply RL_st; rfl; (first | (apply Stp_call (h := fun w' hw _ => lzones_spec Ar Az Al As cr cz cl cs a w' (hA.up hw) hnz); rfl; rintro v O' ⟨bm, mk, rfl, rfl, hk, hkd, hkl⟩) | (apply Stp_call (h := fun w' hw _ => ltargets_spec Ar Az Al As cr cz cl cs a w' (hA.up hw) hnl); rfl; rintro v O' ⟨bl, ml, rfl, rfl, hl, hld, hll⟩) | (apply Stp_boxNf; rfl; (focus repeat (first | exact Nf.nil | apply Nf.cons)); intro bk) | (apply Stp_alloc; intro bk))) | refine walk ?_ | (refine RD_G0w ?_; intro F; (first | (apply Stp_call (h := fun w' hw _ => lzones_spec Ar Az Al As cr cz cl cs a w' (hA.up hw) hnz); rfl; rintro v O' ⟨bm, mk, rfl, rfl, hk, hkd, hkl⟩) | (apply Stp_call (h := fun w' hw _ => ltargets_spec Ar Az Al As cr cz cl cs a w' (hA.up hw) hnl); rfl; rintro v O' ⟨bl, ml, rfl, rfl, hl, hld, hll⟩)); refine ⟨_, EndsA, SubO.right _ _, ?_⟩) | (refine RD_Lw ?_; intro F; (first | (apply Stp_call (h := fun w' hw _ => lzones_spec Ar Az Al As cr cz cl cs a w' (hA.up hw) hnz); rfl; rintro v O' ⟨bm, mk, rfl, rfl, hk, hkd, hkl⟩) | (apply Stp_call (h := fun w' hw _ => ltargets_spec Ar Az Al As cr cz cl cs a w' (hA.up hw) hnl); rfl; rintro v O' ⟨bl, ml, rfl, rfl, hl, hld, hll⟩) | (apply Stp_boxNf; rfl; (focus repeat (first | exact Nf.nil | apply Nf.cons)); intro bk) | (apply Stp_alloc; intro bk) | (apply Stp_storeNf; rfl; rfl; (focus repeat' constructor); (focus repeat (first | exact Nf.nil | apply Nf.cons)); rfl; rfl; rfl; (focus repeat' constructor)) | (apply Stp_pu; exact PuA)); refine ⟨_, EndsA, QFA, ?_⟩) | (apply RD_W; rfl; intro bk))
  have hnm2 := fun w' hw hO => hnm bm mk w' (RdSource.up hA hw) hO hk
  unfold linksD
  cases hzf : zoneFault a a.zones 0 with
  | some pe =>
    obtain ⟨pl, e⟩ := pe
    rw [hzf] at hnm2
    have hne := zoneFault_ne a a.zones 0 pl e hzf
    have hne' : (!decide (e = 0)) = true := by rw [decide_eq_false hne]; rfl
    repeat (first | (apply RL_pu; rfl; (apply Pu_neqB'; rfl; rfl; exact hne')) | (apply RL_st0; (apply Stp_call (h := fun w' hw hO => hnm2 w' hw (hO.of (A := .mp bm mk) (by (focus repeat' constructor)))); rfl; rintro v O' ⟨rfl, rfl⟩)) | (apply RL_st; rfl; (first | (apply Stp_call (h := fun w' hw hO => hnm2 w' hw (hO.of (A := .mp bm mk) (by (focus repeat' constructor)))); rfl; rintro v O' ⟨rfl, rfl⟩) | (apply Stp_boxNf; rfl; (focus repeat (first | exact Nf.nil | apply Nf.cons)); intro bk) | (apply Stp_alloc; intro bk))) | (apply RD_Q; rfl; rfl; decide +kernel; rfl; rfl; (first | (apply Qy_y; rfl; (apply Pu_neqB'; rfl; rfl; exact hne')) | exact QyA)) | refine walk1 ?_ | (refine RD_G0w ?_; intro F; (apply Stp_call (h := fun w' hw hO => hnm2 w' hw (hO.of (A := .mp bm mk) (by (focus repeat' constructor)))); rfl; rintro v O' ⟨rfl, rfl⟩); refine ⟨_, EndsA, SubO.right _ _, ?_⟩) | (refine RD_Lw ?_; intro F; (first | (apply Stp_call (h := fun w' hw hO => hnm2 w' hw (hO.of (A := .mp bm mk) (by (focus repeat' constructor)))); rfl; rintro v O' ⟨rfl, rfl⟩) | (apply Stp_boxNf; rfl; (focus repeat (first | exact Nf.nil | apply Nf.cons)); intro bk) | (apply Stp_alloc; intro bk) | (apply Stp_storeNf; rfl; rfl; (focus repeat' constructor); (focus repeat (first | exact Nf.nil | apply Nf.cons)); rfl; rfl; rfl; (focus repeat' constructor)) | (apply Stp_pu; first | (apply Pu_neqB'; rfl; rfl; exact hne') | exact PuA)); refine ⟨_, EndsA, (by repeat (first | exact QF.nil | (apply QF.mk; rfl; rfl; decide +kernel; (first | (apply Qy_y; rfl; (apply Pu_neqB'; rfl; rfl; exact hne')) | exact QyA)))), ?_⟩) | (apply RD_W; rfl; intro bk))
    exact ret_2 _ _ [] (.cellB rfl (by (focus repeat' constructor)) rfl rfl) (.tmp rfl) .nil ⟨rfl, rfl⟩
  | none =>
  rw [hzf] at hnm2
  rw [Option.none_or]
  obtain ⟨res, hres⟩ : ∃ res, (linkFault a a.links 0).or (loopFault a a.links 0) = res := ⟨_, rfl⟩
  rw [hres]
  repeat (first | (apply RL_st0; (apply Stp_call (h := fun w' hw hO => hnm2 w' hw (hO.of (A := .mp bm mk) (by (focus repeat' constructor)))); rfl; rintro v O' ⟨rfl, rfl⟩)) | (apply RL_st; rfl; (first | (apply Stp_call (h := fun w' hw hO => hnm2 w' hw (hO.of (A := .mp bm mk) (by (focus repeat' constructor)))); rfl; rintro v O' ⟨rfl, rfl⟩) | (apply Stp_boxNf; rfl; (focus repeat (first | exact Nf.nil | apply Nf.cons)); intro bk) | (apply Stp_alloc; intro bk))) | refine walk ?_ | (refine RD_G0w ?_; intro F; (apply Stp_call (h := fun w' hw hO => hnm2 w' hw (hO.of (A := .mp bm mk) (by (focus repeat' constructor)))); rfl; rintro v O' ⟨rfl, rfl⟩); refine ⟨_, EndsA, SubO.right _ _, ?_⟩) | (refine RD_Lw ?_; intro F; (first | (apply Stp_call (h := fun w' hw hO => hnm2 w' hw (hO.of (A := .mp bm mk) (by (focus repeat' constructor)))); rfl; rintro v O' ⟨rfl, rfl⟩) | (apply Stp_boxNf; rfl; (focus repeat (first | exact Nf.nil | apply Nf.cons)); intro bk) | (apply Stp_alloc; intro bk) | (apply Stp_storeNf; rfl; rfl; (focus repeat' constructor); (focus repeat (first | exact Nf.nil | apply Nf.cons)); rfl; rfl; rfl; (focus repeat' constructor)) | (apply Stp_pu; exact PuA)); refine ⟨_, EndsA, QFA, ?_⟩) | (apply RD_W; rfl; intro bk))
  refine W_loopF [(1, .pointer (some ⟨b1, 0, none⟩)), (2, .pointer (some ⟨b2, 0, none⟩)), (4, .map (some bm)), (5, .map (some bl)), (36, .slice Al a.links.length cl), (37, .int .i64 a.links.length)] [.mp bl ml, .mp bm mk, .blk b2 [.int .i64 0, .int .i64 0, .int .i64 0] 31, .blk b1 [.slice Ar a.rules.length cr, .slice Az a.zones.length cz, .slice Al a.links.length cl, .slice As a.shifts.length cs] 27]
    (fun k : Nat => [(38, .int .i64 k)]) (fun _ => []) (fun k => k ≤ a.links.length ∧ (linkFault a (a.links.drop k) k).or (loopFault a a.links 0) = res) (fun k => a.links.length - k) 0 (by repeat (first | exact trivial | refine ⟨rfl, ?_⟩)) (by first | exact .refl _ | focus repeat (first | exact SubO.nil | (apply SubO.cons; focus repeat' constructor))) ⟨Nat.zero_le _, hres⟩ ?_
  rintro k ⟨hkl', hi⟩
  repeat (first | (apply RL_st; rfl; (first | (apply Stp_boxNf; rfl; (focus repeat (first | exact Nf.nil | apply Nf.cons)); intro bk) | (apply Stp_alloc; intro bk))) | refine walk ?_ | (refine RD_Lw ?_; intro F; (first | (apply Stp_boxNf; rfl; (focus repeat (first | exact Nf.nil | apply Nf.cons)); intro bk) | (apply Stp_alloc; intro bk) | (apply Stp_storeNf; rfl; rfl; (focus repeat' constructor); (focus repeat (first | exact Nf.nil | apply Nf.cons)); rfl; rfl; rfl; (focus repeat' constructor)) | (apply Stp_pu; exact PuA)); refine ⟨_, EndsA, QFA, ?_⟩) | (apply RD_W; rfl; intro bk))
  refine W_cond rfl (fun hc => ?_) (fun hc => ?_)
  · simp only [decide_eq_true_eq, Int.ofNat_lt] at hc
    obtain ⟨hna, hca⟩ := hA.l.rd k _ (List.getElem?_eq_getElem hc)
    have hmem := List.getElem_mem hc
    rw [drop_cons hc, linkFault] at hi
    generalize a.links[k] = lk at *
    have hsz := (hS.ls lk hmem).2
    obtain ⟨n1, hv1, hc1⟩ := hk.any lk.name
    obtain ⟨n2, hv2, hc2⟩ := hk.any lk.target
    obtain ⟨n3, hv3, hc3⟩ := hl.any lk.target
    obtain ⟨j, hj⟩ := firstL_mem 0 hmem
    have hv4 := (hl.some hj).1
    rw [hj] at hi
    generalize (firstZ lk.name a.zones 0).isSome = c1 at *
    rw [← Option.not_isSome, ← Option.not_isSome] at hi
    generalize (firstZ lk.target a.zones 0).isSome = c2 at *
    generalize (firstL lk.target a.links 0).isSome = c3 at *
    have hzn := fun w' => zone_spec lk.name (by omega) w'
    generalize zoneB lk.name = zb at *
    cases zb with
    | false =>
      rw [if_pos rfl] at hi
      subst hi
      repeat (first | (apply RL_pu; rfl; (first | (apply Pu_indexAddr; rfl; rfl; omega; omega; exact hna) | (apply Pu_loadON; rfl; exact hca; rfl) | (apply Pu_loadO1'; rfl; exact hca; rfl) | (apply Pu_loadO1; rfl; exact hca 0 _ rfl) | (apply Pu_lookupOkC; rfl; rfl; (focus repeat' constructor); exact hv1; exact hc1) | (apply Pu_lookupOkC; rfl; rfl; (focus repeat' constructor); exact hv2; exact hc2) | (apply Pu_lookupOkC; rfl; rfl; (focus repeat' constructor); exact hv3; exact hc3) | (apply Pu_lookupC; rfl; rfl; (focus repeat' constructor); exact hv4))) | (apply RL_st0; (apply Stp_call (h := fun w' hw _ => hzn w'); rfl; rintro v O' ⟨rfl, rfl⟩)) | (apply RL_st; rfl; (first | (apply Stp_call (h := fun w' hw _ => hzn w'); rfl; rintro v O' ⟨rfl, rfl⟩) | (apply Stp_boxNf; rfl; (focus repeat (first | exact Nf.nil | apply Nf.cons)); intro bk) | (apply Stp_alloc; intro bk))) | (apply RD_Q; rfl; rfl; decide +kernel; rfl; rfl; (first | (apply Qy_y; rfl; (first | (apply Pu_indexAddr; rfl; rfl; omega; omega; exact hna) | (apply Pu_loadON; rfl; exact hca; rfl) | (apply Pu_loadO1'; rfl; exact hca; rfl) | (apply Pu_loadO1; rfl; exact hca 0 _ rfl) | (apply Pu_lookupOkC; rfl; rfl; (focus repeat' constructor); exact hv1; exact hc1) | (apply Pu_lookupOkC; rfl; rfl; (focus repeat' constructor); exact hv2; exact hc2) | (apply Pu_lookupOkC; rfl; rfl; (focus repeat' constructor); exact hv3; exact hc3) | (apply Pu_lookupC; rfl; rfl; (focus repeat' constructor); exact hv4))) | exact QyA)) | refine walk1 ?_ | (refine RD_G0w ?_; intro F; (apply Stp_call (h := fun w' hw _ => hzn w'); rfl; rintro v O' ⟨rfl, rfl⟩); refine ⟨_, EndsA, SubO.right _ _, ?_⟩) | (refine RD_Lw ?_; intro F; (first | (apply Stp_call (h := fun w' hw _ => hzn w'); rfl; rintro v O' ⟨rfl, rfl⟩) | (apply Stp_boxNf; rfl; (focus repeat (first | exact Nf.nil | apply Nf.cons)); intro bk) | (apply Stp_alloc; intro bk) | (apply Stp_storeNf; rfl; rfl; (focus repeat' constructor); (focus repeat (first | exact Nf.nil | apply Nf.cons)); rfl; rfl; rfl; (focus repeat' constructor)) | (apply Stp_pu; first | (apply Pu_indexAddr; rfl; rfl; omega; omega; exact hna) | (apply Pu_loadON; rfl; exact hca; rfl) | (apply Pu_loadO1'; rfl; exact hca; rfl) | (apply Pu_loadO1; rfl; exact hca 0 _ rfl) | (apply Pu_lookupOkC; rfl; rfl; (focus repeat' constructor); exact hv1; exact hc1) | (apply Pu_lookupOkC; rfl; rfl; (focus repeat' constructor); exact hv2; exact hc2) | (apply Pu_lookupOkC; rfl; rfl; (focus repeat' constructor); exact hv3; exact hc3) | (apply Pu_lookupC; rfl; rfl; (focus repeat' constructor); exact hv4) | exact PuA)); refine ⟨_, EndsA, (by repeat (first | exact QF.nil | (apply QF.mk; rfl; rfl; decide +kernel; (first | (apply Qy_y; rfl; (first | (apply Pu_indexAddr; rfl; rfl; omega; omega; exact hna) | (apply Pu_loadON; rfl; exact hca; rfl) | (apply Pu_loadO1'; rfl; exact hca; rfl) | (apply Pu_loadO1; rfl; exact hca 0 _ rfl) | (apply Pu_lookupOkC; rfl; rfl; (focus repeat' constructor); exact hv1; exact hc1) | (apply Pu_lookupOkC; rfl; rfl; (focus repeat' constructor); exact hv2; exact hc2) | (apply Pu_lookupOkC; rfl; rfl; (focus repeat' constructor); exact hv3; exact hc3) | (apply Pu_lookupC; rfl; rfl; (focus repeat' constructor); exact hv4))) | exact QyA)))), ?_⟩) | (apply RD_W; rfl; intro bk))
      exact ret_2 _ _ [] (.cellB rfl (by (focus repeat' constructor)) rfl rfl) (.tmp rfl) .nil ⟨rfl, rfl⟩
    | true =>
      rw [if_neg (by decide)] at hi
      cases c1 with
      | true =>
        rw [if_pos (.inl rfl)] at hi
        subst hi
        repeat (first | (apply RL_pu; rfl; (first | (apply Pu_indexAddr; rfl; rfl; omega; omega; exact hna) | (apply Pu_loadON; rfl; exact hca; rfl) | (apply Pu_loadO1'; rfl; exact hca; rfl) | (apply Pu_loadO1; rfl; exact hca 0 _ rfl) | (apply Pu_lookupOkC; rfl; rfl; (focus repeat' constructor); exact hv1; exact hc1) | (apply Pu_lookupOkC; rfl; rfl; (focus repeat' constructor); exact hv2; exact hc2) | (apply Pu_lookupOkC; rfl; rfl; (focus repeat' constructor); exact hv3; exact hc3) | (apply Pu_lookupC; rfl; rfl; (focus repeat' constructor); exact hv4))) | (apply RL_st0; (apply Stp_call (h := fun w' hw _ => hzn w'); rfl; rintro v O' ⟨rfl, rfl⟩)) | (apply RL_st; rfl; (first | (apply Stp_call (h := fun w' hw _ => hzn w'); rfl; rintro v O' ⟨rfl, rfl⟩) | (apply Stp_boxNf; rfl; (focus repeat (first | exact Nf.nil | apply Nf.cons)); intro bk) | (apply Stp_alloc; intro bk))) | (apply RD_Q; rfl; rfl; decide +kernel; rfl; rfl; (first | (apply Qy_y; rfl; (first | (apply Pu_indexAddr; rfl; rfl; omega; omega; exact hna) | (apply Pu_loadON; rfl; exact hca; rfl) | (apply Pu_loadO1'; rfl; exact hca; rfl) | (apply Pu_loadO1; rfl; exact hca 0 _ rfl) | (apply Pu_lookupOkC; rfl; rfl; (focus repeat' constructor); exact hv1; exact hc1) | (apply Pu_lookupOkC; rfl; rfl; (focus repeat' constructor); exact hv2; exact hc2) | (apply Pu_lookupOkC; rfl; rfl; (focus repeat' constructor); exact hv3; exact hc3) | (apply Pu_lookupC; rfl; rfl; (focus repeat' constructor); exact hv4))) | exact QyA)) | refine walk1 ?_ | (refine RD_G0w ?_; intro F; (apply Stp_call (h := fun w' hw _ => hzn w'); rfl; rintro v O' ⟨rfl, rfl⟩); refine ⟨_, EndsA, SubO.right _ _, ?_⟩) | (refine RD_Lw ?_; intro F; (first | (apply Stp_call (h := fun w' hw _ => hzn w'); rfl; rintro v O' ⟨rfl, rfl⟩) | (apply Stp_boxNf; rfl; (focus repeat (first | exact Nf.nil | apply Nf.cons)); intro bk) | (apply Stp_alloc; intro bk) | (apply Stp_storeNf; rfl; rfl; (focus repeat' constructor); (focus repeat (first | exact Nf.nil | apply Nf.cons)); rfl; rfl; rfl; (focus repeat' constructor)) | (apply Stp_pu; first | (apply Pu_indexAddr; rfl; rfl; omega; omega; exact hna) | (apply Pu_loadON; rfl; exact hca; rfl) | (apply Pu_loadO1'; rfl; exact hca; rfl) | (apply Pu_loadO1; rfl; exact hca 0 _ rfl) | (apply Pu_lookupOkC; rfl; rfl; (focus repeat' constructor); exact hv1; exact hc1) | (apply Pu_lookupOkC; rfl; rfl; (focus repeat' constructor); exact hv2; exact hc2) | (apply Pu_lookupOkC; rfl; rfl; (focus repeat' constructor); exact hv3; exact hc3) | (apply Pu_lookupC; rfl; rfl; (focus repeat' constructor); exact hv4) | exact PuA)); refine ⟨_, EndsA, (by repeat (first | exact QF.nil | (apply QF.mk; rfl; rfl; decide +kernel; (first | (apply Qy_y; rfl; (first | (apply Pu_indexAddr; rfl; rfl; omega; omega; exact hna) | (apply Pu_loadON; rfl; exact hca; rfl) | (apply Pu_loadO1'; rfl; exact hca; rfl) | (apply Pu_loadO1; rfl; exact hca 0 _ rfl) | (apply Pu_lookupOkC; rfl; rfl; (focus repeat' constructor); exact hv1; exact hc1) | (apply Pu_lookupOkC; rfl; rfl; (focus repeat' constructor); exact hv2; exact hc2) | (apply Pu_lookupOkC; rfl; rfl; (focus repeat' constructor); exact hv3; exact hc3) | (apply Pu_lookupC; rfl; rfl; (focus repeat' constructor); exact hv4))) | exact QyA)))), ?_⟩) | (apply RD_W; rfl; intro bk))
        exact ret_2 _ _ [] (.cellB rfl (by (focus repeat' constructor)) rfl rfl) (.tmp rfl) .nil ⟨rfl, rfl⟩
      | false =>
        repeat (first | (apply RL_pu; rfl; (first | (apply Pu_indexAddr; rfl; rfl; omega; omega; exact hna) | (apply Pu_loadON; rfl; exact hca; rfl) | (apply Pu_loadO1'; rfl; exact hca; rfl) | (apply Pu_loadO1; rfl; exact hca 0 _ rfl) | (apply Pu_lookupOkC; rfl; rfl; (focus repeat' constructor); exact hv1; exact hc1) | (apply Pu_lookupOkC; rfl; rfl; (focus repeat' constructor); exact hv2; exact hc2) | (apply Pu_lookupOkC; rfl; rfl; (focus repeat' constructor); exact hv3; exact hc3) | (apply Pu_lookupC; rfl; rfl; (focus repeat' constructor); exact hv4))) | (apply RL_st0; (apply Stp_call (h := fun w' hw _ => hzn w'); rfl; rintro v O' ⟨rfl, rfl⟩)) | (apply RL_st; rfl; (first | (apply Stp_call (h := fun w' hw _ => hzn w'); rfl; rintro v O' ⟨rfl, rfl⟩) | (apply Stp_boxNf; rfl; (focus repeat (first | exact Nf.nil | apply Nf.cons)); intro bk) | (apply Stp_alloc; intro bk))) | (apply RD_Q; rfl; rfl; decide +kernel; rfl; rfl; (first | (apply Qy_y; rfl; (first | (apply Pu_indexAddr; rfl; rfl; omega; omega; exact hna) | (apply Pu_loadON; rfl; exact hca; rfl) | (apply Pu_loadO1'; rfl; exact hca; rfl) | (apply Pu_loadO1; rfl; exact hca 0 _ rfl) | (apply Pu_lookupOkC; rfl; rfl; (focus repeat' constructor); exact hv1; exact hc1) | (apply Pu_lookupOkC; rfl; rfl; (focus repeat' constructor); exact hv2; exact hc2) | (apply Pu_lookupOkC; rfl; rfl; (focus repeat' constructor); exact hv3; exact hc3) | (apply Pu_lookupC; rfl; rfl; (focus repeat' constructor); exact hv4))) | exact QyA)) | refine walk1 ?_ | (refine RD_G0w ?_; intro F; (apply Stp_call (h := fun w' hw _ => hzn w'); rfl; rintro v O' ⟨rfl, rfl⟩); refine ⟨_, EndsA, SubO.right _ _, ?_⟩) | (refine RD_Lw ?_; intro F; (first | (apply Stp_call (h := fun w' hw _ => hzn w'); rfl; rintro v O' ⟨rfl, rfl⟩) | (apply Stp_boxNf; rfl; (focus repeat (first | exact Nf.nil | apply Nf.cons)); intro bk) | (apply Stp_alloc; intro bk) | (apply Stp_storeNf; rfl; rfl; (focus repeat' constructor); (focus repeat (first | exact Nf.nil | apply Nf.cons)); rfl; rfl; rfl; (focus repeat' constructor)) | (apply Stp_pu; first | (apply Pu_indexAddr; rfl; rfl; omega; omega; exact hna) | (apply Pu_loadON; rfl; exact hca; rfl) | (apply Pu_loadO1'; rfl; exact hca; rfl) | (apply Pu_loadO1; rfl; exact hca 0 _ rfl) | (apply Pu_lookupOkC; rfl; rfl; (focus repeat' constructor); exact hv1; exact hc1) | (apply Pu_lookupOkC; rfl; rfl; (focus repeat' constructor); exact hv2; exact hc2) | (apply Pu_lookupOkC; rfl; rfl; (focus repeat' constructor); exact hv3; exact hc3) | (apply Pu_lookupC; rfl; rfl; (focus repeat' constructor); exact hv4) | exact PuA)); refine ⟨_, EndsA, (by repeat (first | exact QF.nil | (apply QF.mk; rfl; rfl; decide +kernel; (first | (apply Qy_y; rfl; (first | (apply Pu_indexAddr; rfl; rfl; omega; omega; exact hna) | (apply Pu_loadON; rfl; exact hca; rfl) | (apply Pu_loadO1'; rfl; exact hca; rfl) | (apply Pu_loadO1; rfl; exact hca 0 _ rfl) | (apply Pu_lookupOkC; rfl; rfl; (focus repeat' constructor); exact hv1; exact hc1) | (apply Pu_lookupOkC; rfl; rfl; (focus repeat' constructor); exact hv2; exact hc2) | (apply Pu_lookupOkC; rfl; rfl; (focus repeat' constructor); exact hv3; exact hc3) | (apply Pu_lookupC; rfl; rfl; (focus repeat' constructor); exact hv4))) | exact QyA)))), ?_⟩) | (apply RD_W; rfl; intro bk))
        refine W_cond rfl (fun h2 => ?_) (fun h2 => ?_)
        · simp only [Bool.not_eq_true', decide_eq_false_iff_not] at h2
          rw [if_pos (.inr fun e => h2 (by simp only [Option.some.injEq] at e; omega))] at hi
          subst hi
          repeat (first | (apply RL_st; rfl; (first | (apply Stp_boxNf; rfl; (focus repeat (first | exact Nf.nil | apply Nf.cons)); intro bk) | (apply Stp_alloc; intro bk))) | refine walk ?_ | (refine RD_Lw ?_; intro F; (first | (apply Stp_boxNf; rfl; (focus repeat (first | exact Nf.nil | apply Nf.cons)); intro bk) | (apply Stp_alloc; intro bk) | (apply Stp_storeNf; rfl; rfl; (focus repeat' constructor); (focus repeat (first | exact Nf.nil | apply Nf.cons)); rfl; rfl; rfl; (focus repeat' constructor)) | (apply Stp_pu; exact PuA)); refine ⟨_, EndsA, QFA, ?_⟩) | (apply RD_W; rfl; intro bk))
          exact ret_2 _ _ [] (.cellB rfl (by (focus repeat' constructor)) rfl rfl) (.tmp rfl) .nil ⟨rfl, rfl⟩
        · simp only [Bool.not_eq_false', decide_eq_true_eq] at h2
          rw [if_neg (by rintro (e | e); cases e; exact e (by congr 1; omega))] at hi
          by_cases hcc : c2 = false ∧ c3 = false
          · obtain ⟨rfl, rfl⟩ := hcc
            rw [if_pos ⟨rfl, rfl⟩] at hi
            subst hi
            repeat (first | (apply RL_st; rfl; (first | (apply Stp_boxNf; rfl; (focus repeat (first | exact Nf.nil | apply Nf.cons)); intro bk) | (apply Stp_alloc; intro bk))) | refine walk ?_ | (refine RD_Lw ?_; intro F; (first | (apply Stp_boxNf; rfl; (focus repeat (first | exact Nf.nil | apply Nf.cons)); intro bk) | (apply Stp_alloc; intro bk) | (apply Stp_storeNf; rfl; rfl; (focus repeat' constructor); (focus repeat (first | exact Nf.nil | apply Nf.cons)); rfl; rfl; rfl; (focus repeat' constructor)) | (apply Stp_pu; exact PuA)); refine ⟨_, EndsA, QFA, ?_⟩) | (apply RD_W; rfl; intro bk))
            exact ret_2 _ _ [] (.cellB rfl (by (focus repeat' constructor)) rfl rfl) (.tmp rfl) .nil ⟨rfl, rfl⟩
          · rw [if_neg (by simpa using hcc)] at hi
            cases c2 with
            | true =>
              repeat (first | (apply RL_st; rfl; (first | (apply Stp_boxNf; rfl; (focus repeat (first | exact Nf.nil | apply Nf.cons)); intro bk) | (apply Stp_alloc; intro bk))) | refine walk ?_ | (refine RD_Lw ?_; intro F; (first | (apply Stp_boxNf; rfl; (focus repeat (first | exact Nf.nil | apply Nf.cons)); intro bk) | (apply Stp_alloc; intro bk) | (apply Stp_storeNf; rfl; rfl; (focus repeat' constructor); (focus repeat (first | exact Nf.nil | apply Nf.cons)); rfl; rfl; rfl; (focus repeat' constructor)) | (apply Stp_pu; exact PuA)); refine ⟨_, EndsA, QFA, ?_⟩) | (apply RD_W; rfl; intro bk))
              exact ⟨k + 1, (by first | omega | (dsimp only; omega)), ⟨(by first | omega | (dsimp only; omega)), hi⟩, (by repeat (first | exact trivial | refine ⟨rfl, ?_⟩)), (by first | exact .refl _ | focus repeat (first | exact SubO.nil | (apply SubO.cons; focus repeat' constructor)))⟩
            | false =>
              cases c3 with
              | false => exact absurd ⟨rfl, rfl⟩ hcc
              | true =>
                repeat (first | (apply RL_st; rfl; (first | (apply Stp_boxNf; rfl; (focus repeat (first | exact Nf.nil | apply Nf.cons)); intro bk) | (apply Stp_alloc; intro bk))) | refine walk ?_ | (refine RD_Lw ?_; intro F; (first | (apply Stp_boxNf; rfl; (focus repeat (first | exact Nf.nil | apply Nf.cons)); intro bk) | (apply Stp_alloc; intro bk) | (apply Stp_storeNf; rfl; rfl; (focus repeat' constructor); (focus repeat (first | exact Nf.nil | apply Nf.cons)); rfl; rfl; rfl; (focus repeat' constructor)) | (apply Stp_pu; exact PuA)); refine ⟨_, EndsA, QFA, ?_⟩) | (apply RD_W; rfl; intro bk))
                exact ⟨k + 1, (by first | omega | (dsimp only; omega)), ⟨(by first | omega | (dsimp only; omega)), hi⟩, (by repeat (first | exact trivial | refine ⟨rfl, ?_⟩)), (by first | exact .refl _ | focus repeat (first | exact SubO.nil | (apply SubO.cons; focus repeat' constructor)))⟩
  · simp only [decide_eq_false_iff_not, Int.ofNat_lt] at hc
    rw [List.drop_eq_nil_of_le (by omega), linkFault, Option.none_or] at hi
    repeat (first | (apply RL_st; rfl; (first | (apply Stp_boxNf; rfl; (focus repeat (first | exact Nf.nil | apply Nf.cons)); intro bk) | (apply Stp_alloc; intro bk))) | refine walk ?_ | (refine RD_Lw ?_; intro F; (first | (apply Stp_boxNf; rfl; (focus repeat (first | exact Nf.nil | apply Nf.cons)); intro bk) | (apply Stp_alloc; intro bk) | (apply Stp_storeNf; rfl; rfl; (focus repeat' constructor); (focus repeat (first | exact Nf.nil | apply Nf.cons)); rfl; rfl; rfl; (focus repeat' constructor)) | (apply Stp_pu; exact PuA)); refine ⟨_, EndsA, QFA, ?_⟩) | (apply RD_W; rfl; intro bk))
    clear hc hkl' hres
    refine W_loopF [(1, .pointer (some ⟨b1, 0, none⟩)), (2, .pointer (some ⟨b2, 0, none⟩)), (4, .map (some bm)), (5, .map (some bl)), (93, .slice Al a.links.length cl), (94, .int .i64 a.links.length)] [.mp bl ml, .mp bm mk, .blk b2 [.int .i64 0, .int .i64 0, .int .i64 0] 31, .blk b1 [.slice Ar a.rules.length cr, .slice Az a.zones.length cz, .slice Al a.links.length cl, .slice As a.shifts.length cs] 27]
      (fun k : Nat => [(95, .int .i64 k)]) (fun _ => []) (fun k => k ≤ a.links.length ∧ loopFault a (a.links.drop k) k = res) (fun k => a.links.length - k) 0 (by repeat (first | exact trivial | refine ⟨rfl, ?_⟩)) (by first | exact .refl _ | focus repeat (first | exact SubO.nil | (apply SubO.cons; focus repeat' constructor))) ⟨Nat.zero_le _, hi⟩ ?_
    clear hi
    rintro k ⟨hkl', hi⟩
    repeat (first | (apply RL_st; rfl; (first | (apply Stp_boxNf; rfl; (focus repeat (first | exact Nf.nil | apply Nf.cons)); intro bk) | (apply Stp_alloc; intro bk))) | refine walk ?_ | (refine RD_Lw ?_; intro F; (first | (apply Stp_boxNf; rfl; (focus repeat (first | exact Nf.nil | apply Nf.cons)); intro bk) | (apply Stp_alloc; intro bk) | (apply Stp_storeNf; rfl; rfl; (focus repeat' constructor); (focus repeat (first | exact Nf.nil | apply Nf.cons)); rfl; rfl; rfl; (focus repeat' constructor)) | (apply Stp_pu; exact PuA)); refine ⟨_, EndsA, QFA, ?_⟩) | (apply RD_W; rfl; intro bk))
    refine W_cond rfl (fun hc => ?_) (fun hc => ?_)
    · simp only [decide_eq_true_eq, Int.ofNat_lt] at hc
      obtain ⟨hna, hca⟩ := hA.l.rd k _ (List.getElem?_eq_getElem hc)
      rw [drop_cons hc, loopFault] at hi
      generalize a.links[k] = lk at *
      have hfo := fun w' h0 h1 h2 => follow_spec Ar Az Al As cr cz cl cs a bm bl mk ml lk.name w' h0 h1 h2 hk hl hld hll
      generalize followD a (a.links.length + 1) [] lk.name = fo at *
      obtain ⟨fi, fe⟩ := fo
      dsimp only at hfo hi
      repeat (first | (apply RL_pu; rfl; (first | (apply Pu_indexAddr; rfl; rfl; omega; omega; exact hna) | (apply Pu_loadON; rfl; exact hca; rfl) | (apply Pu_loadO1'; rfl; exact hca; rfl) | (apply Pu_loadO1; rfl; exact hca 0 _ rfl))) | (apply RL_st0; (apply Stp_call (h := fun w' hw hO => hfo w' (hA.up hw) (hO.of (A := .mp bm mk) (by (focus repeat' constructor))) (hO.of (A := .mp bl ml) (by (focus repeat' constructor)))); rfl; rintro v O' ⟨rfl, rfl⟩)) | (apply RL_st; rfl; (first | (apply Stp_call (h := fun w' hw hO => hfo w' (hA.up hw) (hO.of (A := .mp bm mk) (by (focus repeat' constructor))) (hO.of (A := .mp bl ml) (by (focus repeat' constructor)))); rfl; rintro v O' ⟨rfl, rfl⟩) | (apply Stp_boxNf; rfl; (focus repeat (first | exact Nf.nil | apply Nf.cons)); intro bk) | (apply Stp_alloc; intro bk))) | (apply RD_Q; rfl; rfl; decide +kernel; rfl; rfl; (first | (apply Qy_y; rfl; (first | (apply Pu_indexAddr; rfl; rfl; omega; omega; exact hna) | (apply Pu_loadON; rfl; exact hca; rfl) | (apply Pu_loadO1'; rfl; exact hca; rfl) | (apply Pu_loadO1; rfl; exact hca 0 _ rfl))) | exact QyA)) | refine walk1 ?_ | (refine RD_G0w ?_; intro F; (apply Stp_call (h := fun w' hw hO => hfo w' (hA.up hw) (hO.of (A := .mp bm mk) (by (focus repeat' constructor))) (hO.of (A := .mp bl ml) (by (focus repeat' constructor)))); rfl; rintro v O' ⟨rfl, rfl⟩); refine ⟨_, EndsA, SubO.right _ _, ?_⟩) | (refine RD_Lw ?_; intro F; (first | (apply Stp_call (h := fun w' hw hO => hfo w' (hA.up hw) (hO.of (A := .mp bm mk) (by (focus repeat' constructor))) (hO.of (A := .mp bl ml) (by (focus repeat' constructor)))); rfl; rintro v O' ⟨rfl, rfl⟩) | (apply Stp_boxNf; rfl; (focus repeat (first | exact Nf.nil | apply Nf.cons)); intro bk) | (apply Stp_alloc; intro bk) | (apply Stp_storeNf; rfl; rfl; (focus repeat' constructor); (focus repeat (first | exact Nf.nil | apply Nf.cons)); rfl; rfl; rfl; (focus repeat' constructor)) | (apply Stp_pu; first | (apply Pu_indexAddr; rfl; rfl; omega; omega; exact hna) | (apply Pu_loadON; rfl; exact hca; rfl) | (apply Pu_loadO1'; rfl; exact hca; rfl) | (apply Pu_loadO1; rfl; exact hca 0 _ rfl) | exact PuA)); refine ⟨_, EndsA, (by repeat (first | exact QF.nil | (apply QF.mk; rfl; rfl; decide +kernel; (first | (apply Qy_y; rfl; (first | (apply Pu_indexAddr; rfl; rfl; omega; omega; exact hna) | (apply Pu_loadON; rfl; exact hca; rfl) | (apply Pu_loadO1'; rfl; exact hca; rfl) | (apply Pu_loadO1; rfl; exact hca 0 _ rfl))) | exact QyA)))), ?_⟩) | (apply RD_W; rfl; intro bk))
      refine W_cond rfl (fun h2 => ?_) (fun h2 => ?_)
      · simp only [decide_eq_true_eq] at h2
        subst h2
        rw [if_pos rfl] at hi
        subst hi
        repeat (first | (apply RL_st; rfl; (first | (apply Stp_boxNf; rfl; (focus repeat (first | exact Nf.nil | apply Nf.cons)); intro bk) | (apply Stp_alloc; intro bk))) | refine walk ?_ | (refine RD_Lw ?_; intro F; (first | (apply Stp_boxNf; rfl; (focus repeat (first | exact Nf.nil | apply Nf.cons)); intro bk) | (apply Stp_alloc; intro bk) | (apply Stp_storeNf; rfl; rfl; (focus repeat' constructor); (focus repeat (first | exact Nf.nil | apply Nf.cons)); rfl; rfl; rfl; (focus repeat' constructor)) | (apply Stp_pu; exact PuA)); refine ⟨_, EndsA, QFA, ?_⟩) | (apply RD_W; rfl; intro bk))
        exact ret_2 _ _ [] (.cellB rfl (by (focus repeat' constructor)) rfl rfl) (.tmp rfl) .nil ⟨rfl, rfl⟩
      · simp only [decide_eq_false_iff_not] at h2
        rw [if_neg h2] at hi
        repeat (first | (apply RL_st; rfl; (first | (apply Stp_boxNf; rfl; (focus repeat (first | exact Nf.nil | apply Nf.cons)); intro bk) | (apply Stp_alloc; intro bk))) | refine walk ?_ | (refine RD_Lw ?_; intro F; (first | (apply Stp_boxNf; rfl; (focus repeat (first | exact Nf.nil | apply Nf.cons)); intro bk) | (apply Stp_alloc; intro bk) | (apply Stp_storeNf; rfl; rfl; (focus repeat' constructor); (focus repeat (first | exact Nf.nil | apply Nf.cons)); rfl; rfl; rfl; (focus repeat' constructor)) | (apply Stp_pu; exact PuA)); refine ⟨_, EndsA, QFA, ?_⟩) | (apply RD_W; rfl; intro bk))
        exact ⟨k + 1, (by first | omega | (dsimp only; omega)), ⟨(by first | omega | (dsimp only; omega)), hi⟩, (by repeat (first | exact trivial | refine ⟨rfl, ?_⟩)), (by first | exact .refl _ | focus repeat (first | exact SubO.nil | (apply SubO.cons; focus repeat' constructor)))⟩
    · simp only [decide_eq_false_iff_not, Int.ofNat_lt] at hc
      rw [List.drop_eq_nil_of_le (by omega), loopFault] at hi
      subst hi
      repeat (first | (apply RL_st; rfl; (first | (apply Stp_boxNf; rfl; (focus repeat (first | exact Nf.nil | apply Nf.cons)); intro bk) | (apply Stp_alloc; intro bk))) | refine walk ?_ | (refine RD_Lw ?_; intro F; (first | (apply Stp_boxNf; rfl; (focus repeat (first | exact Nf.nil | apply Nf.cons)); intro bk) | (apply Stp_alloc; intro bk) | (apply Stp_storeNf; rfl; rfl; (focus repeat' constructor); (focus repeat (first | exact Nf.nil | apply Nf.cons)); rfl; rfl; rfl; (focus repeat' constructor)) | (apply Stp_pu; exact PuA)); refine ⟨_, EndsA, QFA, ?_⟩) | (apply RD_W; rfl; intro bk))
      exact ret_2 _ _ [] (.cellB rfl (by (focus repeat' constructor)) rfl rfl) (.tmp rfl) .nil ⟨rfl, rfl⟩
end Go.Proofs.YtbffjibfcgcoeaaGreatDoor
