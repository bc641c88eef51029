/- Contract: analemmaref14.Copy. -/
import Derived.Test.YtfhjfpikngcknaaDoorSets
import Derived.Test.YtfhjfpikngcknaaDoorWkQ
namespace Go.Proofs.YtfhjfpikngcknaaDoor
open Go Go.RowKit Go.Wk
attribute [local irreducible] W RL Does thenQ blockQ retQ Calls Pu Stp RD Qy Ay


/-- A source of moderate size. -/
structure Fits (a : DSource) : Prop where
  r : a.rules.length ≤ 1000000
  z : a.zones.length ≤ 1000000
  l : a.links.length ≤ 1000000
  s : a.shifts.length ≤ 1000000
  e : ∀ z ∈ a.zones, z.eras.length ≤ 1000000

/-- A zone with the place of its eras. -/
structure ZE where
  z : DZone
  A : Option Addr
  c : Nat
def ZE.enc (q : ZE) : List Value := [.string q.z.name, .slice q.A q.z.eras.length q.c]
theorem ZE.len (x : ZE) : x.enc.length = 2 := rfl
theorem oneZ (x : ZE) : x.enc.all Value.oneCell' = true := rfl
def ErasAt (Zs : List ZE) (w : World) : Prop := ∀ q ∈ Zs, RdSl w q.A q.c DEra.enc 13 q.z.eras
theorem ErasAt.snoc {Zs : List ZE} {q : ZE} {w : World} (h : ErasAt Zs w) (hq : RdSl w q.A q.c DEra.enc 13 q.z.eras) : ErasAt (Zs ++ [q]) w := fun x hx => by
  rcases List.mem_append.1 hx with hx | hx
  · exact h x hx
  · rw [List.mem_singleton.1 hx]; exact hq
theorem ErasAt.append {Zs Zs' : List ZE} {w : World} (h : ErasAt Zs w) (h' : ErasAt Zs' w) : ErasAt (Zs ++ Zs') w := fun x hx => by
  rcases List.mem_append.1 hx with hx | hx
  · exact h x hx
  · exact h' x hx
theorem zones_rd {w : World} {A : Option Addr} {c : Nat} {Zs : List ZE} (h : RdSl w A c ZE.enc 2 Zs) (he : ErasAt Zs w) : RdZ w A (Zs.map ZE.z) := fun k z hz => by
  rw [List.getElem?_map] at hz
  cases hq : Zs[k]? with
  | none => rw [hq] at hz; cases hz
  | some q =>
    rw [hq] at hz
    injection hz with hz
    subst hz
    exact ⟨(h.rd k q hq).1, q.enc, ⟨q.A, q.c, he q (List.mem_of_getElem? hq), rfl⟩, (h.rd k q hq).2⟩

abbrev rowR (A : Option Addr) (c : Nat) (l : List DRule) : It := .row (.slice A l.length c) 46 11 l.length (l.flatMap DRule.enc)
abbrev rowZ (A : Option Addr) (c : Nat) (l : List ZE) : It := .row (.slice A l.length c) 37 2 l.length (l.flatMap ZE.enc)
abbrev rowL (A : Option Addr) (c : Nat) (l : List DLink) : It := .row (.slice A l.length c) 39 2 l.length (l.flatMap DLink.enc)
abbrev rowS (A : Option Addr) (c : Nat) (l : List ByteArray) : It := .row (.slice A l.length c) 9 1 l.length (l.flatMap strEnc)

/-- A result that is a new source, all its memory its own. -/
def NewSrc (s : DSource) (v : Value) (O : List It) : Prop :=
  ∃ Ar cr Az cz Al cl As cs Zs S, v = srcV Ar Az Al As cr cz cl cs s ∧ Zs.map ZE.z = s.zones ∧ O = [rowR Ar cr s.rules, rowZ Az cz Zs, rowL Al cl s.links, rowS As cs s.shifts, .fact S (ErasAt Zs)]

theorem src_rd {w : World} {Ar Az Al As : Option Addr} {cr cz cl cs : Nat} {Zs : List ZE} {S : Nat → Prop} {s : DSource} (hz : Zs.map ZE.z = s.zones) (h1 : (rowR Ar cr s.rules).sat w) (h2 : (rowZ Az cz Zs).sat w) (h3 : (rowL Al cl s.links).sat w) (h4 : (rowS As cs s.shifts).sat w) (h5 : (It.fact S (ErasAt Zs)).sat w) :
    RdSource w Ar Az Al As cr cz cl cs s := by
  have h := rowRd ZE.len h2
  have hl : s.zones.length = Zs.length := by rw [← hz, List.length_map]
  exact ⟨rowRd DRule.len h1, by rw [hl]; exact h.le, h.cap, hz ▸ zones_rd h (fact_at h5), rowRd DLink.len h3, rowRd strEnc.len h4⟩

end Go.Proofs.YtfhjfpikngcknaaDoor
namespace Go.Proofs.YtfhjfpikngcknaaDoor
open Go Go.RowKit Go.Wk
abbrev eraRow (q : ZE) : It := .row (.slice q.A q.z.eras.length q.c) 69 13 q.z.eras.length (q.z.eras.flatMap DEra.enc)
/-- A result that is a new source, all its memory its own, the eras' rows one by one. -/
def NewSrcR (s : DSource) (v : Value) (O : List It) : Prop :=
  ∃ Ar cr Az cz Al cl As cs Zs, v = srcV Ar Az Al As cr cz cl cs s ∧ Zs.map ZE.z = s.zones ∧ O = rowR Ar cr s.rules :: rowZ Az cz Zs :: rowL Al cl s.links :: rowS As cs s.shifts :: Zs.map eraRow
/-- The rows of eras as one fact. -/
theorem newSrc_of {s : DSource} {v : Value} {O : List It} (h : NewSrcR s v O) : ∃ O', NewSrc s v O' ∧ ∀ base w', Holds base O w' → Holds base O' w' := by
  obtain ⟨Ar, cr, Az, cz, Al, cl, As, cs, Zs, rfl, hz, rfl⟩ := h
  refine ⟨_, ⟨Ar, cr, Az, cz, Al, cl, As, cs, Zs, foot (Zs.map eraRow), rfl, hz, rfl⟩, fun base w' hH => ?_⟩
  have h1 : Holds base (Zs.map eraRow ++ [rowR Ar cr s.rules, rowZ Az cz Zs, rowL Al cl s.links, rowS As cs s.shifts]) w' := hH.perm (List.perm_append_comm (l₁ := [rowR Ar cr s.rules, rowZ Az cz Zs, rowL Al cl s.links, rowS As cs s.shifts]))
  have h2 := h1.fact (p := ErasAt Zs) (fun w2 hi q hq => rowRd DEra.len (hi (eraRow q) (List.mem_map.2 ⟨q, hq, rfl⟩)))
  exact h2.perm (List.perm_append_comm (l₁ := [_]) (l₂ := [rowR Ar cr s.rules, rowZ Az cz Zs, rowL Al cl s.links, rowS As cs s.shifts]))
theorem SubO.permT {l A B O : List It} (h : SubO (l ++ A) O) (hp : A.Perm B) : SubO (l ++ B) O := by
  obtain ⟨R, hR⟩ := h.perm
  exact SubO.ofPerm (R := R) (hR.trans ((hp.append_left l).append_right R))
section
variable {P : Program} {n : Nat} {wr : World} {fr : Fr} {O : List It} {ops : Array Oper} {K : Fr → List It → Prop}
/-- A call's opaque tail goes behind what was there. -/
theorem RL_tail {ls : List Oper} {l T old : List It} (h : RL P n wr ops ls K fr (l ++ (old ++ T))) : RL P n wr ops ls K fr ((l ++ T) ++ old) := fun a w hs => h a w ⟨hs.sim, hs.old, hs.own.perm (by rw [List.append_assoc]; exact List.perm_append_comm.append_left l)⟩
theorem RL_filtT {ls : List Oper} {l : List It} {Zs : List ZE} (p : ZE → Bool) (h : RL P n wr ops ls K fr (l ++ (Zs.filter p).map eraRow)) : RL P n wr ops ls K fr (l ++ Zs.map eraRow) := fun a w hs => h a w ⟨hs.sim, hs.old, hs.own.sub (SubO.ofPerm (R := (Zs.filter fun x => !p x).map eraRow) (by
    rw [List.append_assoc, ← List.map_append]
    exact ((List.filter_append_perm p Zs).symm.map eraRow).append_left l))⟩
end
end Go.Proofs.YtfhjfpikngcknaaDoor
namespace Go.Proofs.YtfhjfpikngcknaaDoor
open Go Go.RowKit Go.Wk
attribute [local irreducible] W RL Does thenQ blockQ retQ Calls Pu Stp RD Qy Ay
structure CG where
  k : Nat
  Az : Option Addr
  cz : Nat
  m : Nat
  xs : List Value
  Zs : List ZE
  Ae : Option Addr
  ce : Nat
  me : Nat
  xe : List Value
  S : Nat → Prop
  p : World → Prop

structure QG where
  k : Nat
  Az : Option Addr
  cz : Nat
  m : Nat
  xs : List Value
  Zr : List ZE
theorem copyQ_spec (Ar Az Al As : Option Addr) (cr cz cl cs : Nat) (a : DSource) (w : World) (hA : RdSource w Ar Az Al As cr cz cl cs a) (hn : Fits a) :
    Does Tryd.prog 16 [srcV Ar Az Al As cr cz cl cs a] w (NewSrcR a) := by
  obtain ⟨hnr, hnz, hnl, hns, hne⟩ := hn
  refine Does_of_W Tryd.func16 rfl rfl rfl rfl ?_
  repeat (first | (apply RL_st0; (first | (apply Stp_append0; rfl; rfl; (intro A' c'; (focus repeat' constructor)); (intro w' hw _; exact (hA.r.up hw).rd.raw DRule.len (by decide)); exact flat_len DRule.len _; exact all_flat oneR _; (simp only [maxLen]; omega); omega; intro Ar' cr' hr1 hr2 hr3) | (apply Stp_append0; rfl; rfl; (intro A' c'; (focus repeat' constructor)); (intro w' hw _; exact (hA.l.up hw).rd.raw DLink.len (by decide)); exact flat_len DLink.len _; exact all_flat oneL _; (simp only [maxLen]; omega); omega; intro Al' cl' hl1 hl2 hl3) | (apply Stp_append0; rfl; rfl; (intro A' c'; (focus repeat' constructor)); (intro w' hw _; exact (hA.s.up hw).rd.raw strEnc.len (by decide)); exact flat_len strEnc.len _; exact all_flat oneS _; (simp only [maxLen]; omega); omega; intro As' cs' hs1 hs2 hs3))) | (apply RL_st; rfl; (first | (apply Stp_append0; rfl; rfl; (intro A' c'; (focus repeat' constructor)); (intro w' hw _; exact (hA.r.up hw).rd.raw DRule.len (by decide)); exact flat_len DRule.len _; exact all_flat oneR _; (simp only [maxLen]; omega); omega; intro Ar' cr' hr1 hr2 hr3) | (apply Stp_append0; rfl; rfl; (intro A' c'; (focus repeat' constructor)); (intro w' hw _; exact (hA.l.up hw).rd.raw DLink.len (by decide)); exact flat_len DLink.len _; exact all_flat oneL _; (simp only [maxLen]; omega); omega; intro Al' cl' hl1 hl2 hl3) | (apply Stp_append0; rfl; rfl; (intro A' c'; (focus repeat' constructor)); (intro w' hw _; exact (hA.s.up hw).rd.raw strEnc.len (by decide)); exact flat_len strEnc.len _; exact all_flat oneS _; (simp only [maxLen]; omega); omega; intro As' cs' hs1 hs2 hs3) | (apply Stp_boxNf; rfl; (focus repeat (first | exact Nf.nil | apply Nf.cons)); intro bk) | (apply Stp_alloc; intro bk) | (apply Stp_buildSlice0; intro bk) | (apply Stp_buildSliceC; rfl; rfl; rfl; rfl; (focus repeat (first | exact Nf.nil | apply Nf.cons)); intro bk))) | refine walk ?_ | (refine RD_Lw ?_; intro F; (first | (apply Stp_append0; rfl; rfl; (intro A' c'; (focus repeat' constructor)); (intro w' hw _; exact (hA.r.up hw).rd.raw DRule.len (by decide)); exact flat_len DRule.len _; exact all_flat oneR _; (simp only [maxLen]; omega); omega; intro Ar' cr' hr1 hr2 hr3) | (apply Stp_append0; rfl; rfl; (intro A' c'; (focus repeat' constructor)); (intro w' hw _; exact (hA.l.up hw).rd.raw DLink.len (by decide)); exact flat_len DLink.len _; exact all_flat oneL _; (simp only [maxLen]; omega); omega; intro Al' cl' hl1 hl2 hl3) | (apply Stp_append0; rfl; rfl; (intro A' c'; (focus repeat' constructor)); (intro w' hw _; exact (hA.s.up hw).rd.raw strEnc.len (by decide)); exact flat_len strEnc.len _; exact all_flat oneS _; (simp only [maxLen]; omega); omega; intro As' cs' hs1 hs2 hs3) | (apply Stp_boxNf; rfl; (focus repeat (first | exact Nf.nil | apply Nf.cons)); intro bk) | (apply Stp_alloc; intro bk) | (apply Stp_buildSlice0; intro bk) | (apply Stp_storeNf; rfl; rfl; (focus repeat' constructor); (focus repeat (first | exact Nf.nil | apply Nf.cons)); rfl; rfl; rfl; (focus repeat' constructor)) | (apply Stp_buildSliceC; rfl; rfl; rfl; rfl; (focus repeat (first | exact Nf.nil | apply Nf.cons)); intro bk) | (apply Stp_pu; exact PuA)); refine ⟨_, EndsA, QFA, ?_⟩) | (apply RD_W; rfl; intro bk))
  refine W_nil 37 2 ?_
  refine W_loop (fun g : QG => [(4, .int .i64 g.k), (1, _), (2, _), (3, _)]) (fun g => .row (.slice g.Az g.m g.cz) 37 2 g.m g.xs :: .blk bk [.slice Ar' a.rules.length cr', .slice g.Az g.m g.cz, .slice Al' a.links.length cl', .slice As' a.shifts.length cs'] 32 :: rowS As' cs' a.shifts :: rowL Al' cl' a.links :: rowR Ar' cr' a.rules :: .blk _ _ _ :: .blk _ _ _ :: g.Zr.map eraRow)
    (fun g => g.k ≤ a.zones.length ∧ g.m = g.Zr.length ∧ g.xs = g.Zr.reverse.flatMap ZE.enc ∧ g.Zr.reverse.map ZE.z = a.zones.take g.k)
    (fun g => a.zones.length - g.k) ⟨0, none, 0, 0, [], []⟩ ⟨rfl, rfl, rfl, rfl, trivial⟩ (by repeat (first | exact SubO.nil | (apply SubO.cons; (focus repeat' constructor)) | exact .refl _ | apply SubO.drop)) ⟨by simp, rfl, rfl, by simp⟩ ?_
  rintro ⟨k, Az', cz', m, xs, Zr⟩ ⟨hk, hm, hx, hz⟩
  dsimp only at hk hm hx hz ⊢
  generalize hT : Zr.map eraRow = T
  repeat (first | (apply RL_st; rfl; (first | (apply Stp_boxNf; rfl; (focus repeat (first | exact Nf.nil | apply Nf.cons)); intro bk) | (apply Stp_alloc; intro bk) | (apply Stp_buildSlice0; intro bk) | (apply Stp_buildSliceC; rfl; rfl; rfl; rfl; (focus repeat (first | exact Nf.nil | apply Nf.cons)); intro bk))) | refine walk ?_ | (refine RD_Lw ?_; intro F; (first | (apply Stp_boxNf; rfl; (focus repeat (first | exact Nf.nil | apply Nf.cons)); intro bk) | (apply Stp_alloc; intro bk) | (apply Stp_buildSlice0; intro bk) | (apply Stp_storeNf; rfl; rfl; (focus repeat' constructor); (focus repeat (first | exact Nf.nil | apply Nf.cons)); rfl; rfl; rfl; (focus repeat' constructor)) | (apply Stp_buildSliceC; rfl; rfl; rfl; rfl; (focus repeat (first | exact Nf.nil | apply Nf.cons)); intro bk) | (apply Stp_pu; exact PuA)); refine ⟨_, EndsA, QFA, ?_⟩) | (apply RD_W; rfl; intro bk))
  refine W_cond rfl (fun hc => ?_) (fun hc => ?_)
  · simp only [decide_eq_true_eq, Int.ofNat_lt] at hc
    obtain ⟨hna, cs1, ⟨Ae, ce, hE, rfl⟩, hca⟩ := hA.z k _ (List.getElem?_eq_getElem hc)
    have hnb := hna
    have hcb := hca
    have ht := List.take_append_getElem hc
    have hl := hne _ (List.getElem_mem hc)
    have hzl : Zr.length = k := by rw [← List.length_reverse, ← List.length_map (f := ZE.z), hz, List.length_take]; omega
    generalize a.zones[k] = z at *
    refine W_nil 69 13 ?_
    repeat (first | (apply RL_pu; rfl; (first | (apply Pu_indexAddr; rfl; rfl; omega; omega; (first | exact hna | exact hnb)) | (apply Pu_loadON; rfl; (first | exact hca | exact hcb); rfl) | (apply Pu_loadO1'; rfl; (first | exact hca | exact hcb); rfl) | (apply Pu_loadO1; rfl; (first | exact hca 0 _ rfl | exact hcb 0 _ rfl)))) | (apply RL_st0; (first | (apply Stp_append; rfl; rfl; (intro A' c'; (focus repeat' constructor)); (intro w' _ hO; exact blkRaw (hO.of (by (focus repeat' constructor)))); rfl; rfl; (simp only [maxLen]; omega); omega; intro A' c' hc1 hc2 hc3) | (apply Stp_append0; rfl; rfl; (intro A' c'; (focus repeat' constructor)); (intro w' hw _; exact (hE.up hw).rd.raw DEra.len (by decide)); exact flat_len DEra.len _; exact all_flat oneE _; (simp only [maxLen]; omega); omega; intro Ae2 ce2 he1 he2 he3))) | (apply RL_st; rfl; (first | (apply Stp_append; rfl; rfl; (intro A' c'; (focus repeat' constructor)); (intro w' _ hO; exact blkRaw (hO.of (by (focus repeat' constructor)))); rfl; rfl; (simp only [maxLen]; omega); omega; intro A' c' hc1 hc2 hc3) | (apply Stp_append0; rfl; rfl; (intro A' c'; (focus repeat' constructor)); (intro w' hw _; exact (hE.up hw).rd.raw DEra.len (by decide)); exact flat_len DEra.len _; exact all_flat oneE _; (simp only [maxLen]; omega); omega; intro Ae2 ce2 he1 he2 he3) | (apply Stp_boxNf; rfl; (focus repeat (first | exact Nf.nil | apply Nf.cons)); intro bk) | (apply Stp_alloc; intro bk) | (apply Stp_buildSlice0; intro bk) | (apply Stp_buildSliceC; rfl; rfl; rfl; rfl; (focus repeat (first | exact Nf.nil | apply Nf.cons)); intro bk))) | (apply RD_Q; rfl; rfl; decide +kernel; rfl; rfl; (first | (apply Qy_y; rfl; (first | (apply Pu_indexAddr; rfl; rfl; omega; omega; (first | exact hna | exact hnb)) | (apply Pu_loadON; rfl; (first | exact hca | exact hcb); rfl) | (apply Pu_loadO1'; rfl; (first | exact hca | exact hcb); rfl) | (apply Pu_loadO1; rfl; (first | exact hca 0 _ rfl | exact hcb 0 _ rfl)))) | exact QyA)) | refine walk1 ?_ | (refine RD_Lw ?_; intro F; (first | (apply Stp_append; rfl; rfl; (intro A' c'; (focus repeat' constructor)); (intro w' _ hO; exact blkRaw (hO.of (by (focus repeat' constructor)))); rfl; rfl; (simp only [maxLen]; omega); omega; intro A' c' hc1 hc2 hc3) | (apply Stp_append0; rfl; rfl; (intro A' c'; (focus repeat' constructor)); (intro w' hw _; exact (hE.up hw).rd.raw DEra.len (by decide)); exact flat_len DEra.len _; exact all_flat oneE _; (simp only [maxLen]; omega); omega; intro Ae2 ce2 he1 he2 he3) | (apply Stp_boxNf; rfl; (focus repeat (first | exact Nf.nil | apply Nf.cons)); intro bk) | (apply Stp_alloc; intro bk) | (apply Stp_buildSlice0; intro bk) | (apply Stp_storeNf; rfl; rfl; (focus repeat' constructor); (focus repeat (first | exact Nf.nil | apply Nf.cons)); rfl; rfl; rfl; (focus repeat' constructor)) | (apply Stp_buildSliceC; rfl; rfl; rfl; rfl; (focus repeat (first | exact Nf.nil | apply Nf.cons)); intro bk) | (apply Stp_pu; first | (apply Pu_indexAddr; rfl; rfl; omega; omega; (first | exact hna | exact hnb)) | (apply Pu_loadON; rfl; (first | exact hca | exact hcb); rfl) | (apply Pu_loadO1'; rfl; (first | exact hca | exact hcb); rfl) | (apply Pu_loadO1; rfl; (first | exact hca 0 _ rfl | exact hcb 0 _ rfl)) | exact PuA)); refine ⟨_, EndsA, (by repeat (first | exact QF.nil | (apply QF.mk; rfl; rfl; decide +kernel; (first | (apply Qy_y; rfl; (first | (apply Pu_indexAddr; rfl; rfl; omega; omega; (first | exact hna | exact hnb)) | (apply Pu_loadON; rfl; (first | exact hca | exact hcb); rfl) | (apply Pu_loadO1'; rfl; (first | exact hca | exact hcb); rfl) | (apply Pu_loadO1; rfl; (first | exact hca 0 _ rfl | exact hcb 0 _ rfl)))) | exact QyA)))), ?_⟩) | (apply RD_W; rfl; intro bk))
    subst hT
    exact ⟨⟨k + 1, A', c', m + 1, xs ++ ZE.enc ⟨z, Ae2, ce2⟩, ⟨z, Ae2, ce2⟩ :: Zr⟩, (by first | omega | (dsimp only; omega)), ⟨(by first | omega | (dsimp only; omega)), by simp [hm], by simp [hx], by rw [List.reverse_cons, List.map_append, hz]; exact ht⟩, (by repeat (first | exact trivial | refine ⟨rfl, ?_⟩)), (by repeat (first | exact SubO.nil | (apply SubO.cons; (focus repeat' constructor)) | exact .refl _ | apply SubO.drop))⟩
  simp only [decide_eq_false_iff_not, Int.ofNat_lt] at hc
  rw [List.take_of_length_le (by omega)] at hz
  subst hT
  refine W_perm _ (SubO.permT (l := [_, _, _, _, _, _, _]) (.refl _) ((List.reverse_perm Zr).symm.map eraRow)) ?_
  rw [← List.length_reverse] at hm
  generalize Zr.reverse = Zs at *
  repeat (first | (apply RL_st; rfl; (first | (apply Stp_boxNf; rfl; (focus repeat (first | exact Nf.nil | apply Nf.cons)); intro bk) | (apply Stp_alloc; intro bk) | (apply Stp_buildSlice0; intro bk) | (apply Stp_buildSliceC; rfl; rfl; rfl; rfl; (focus repeat (first | exact Nf.nil | apply Nf.cons)); intro bk))) | refine walk ?_ | (refine RD_Lw ?_; intro F; (first | (apply Stp_boxNf; rfl; (focus repeat (first | exact Nf.nil | apply Nf.cons)); intro bk) | (apply Stp_alloc; intro bk) | (apply Stp_buildSlice0; intro bk) | (apply Stp_storeNf; rfl; rfl; (focus repeat' constructor); (focus repeat (first | exact Nf.nil | apply Nf.cons)); rfl; rfl; rfl; (focus repeat' constructor)) | (apply Stp_buildSliceC; rfl; rfl; rfl; rfl; (focus repeat (first | exact Nf.nil | apply Nf.cons)); intro bk) | (apply Stp_pu; exact PuA)); refine ⟨_, EndsA, QFA, ?_⟩) | (apply RD_W; rfl; intro bk))
  subst hm hx
  have hl : Zs.length = a.zones.length := by rw [← hz, List.length_map]
  exact ret_1 _ (rowR Ar' cr' a.rules :: rowZ Az' cz' Zs :: rowL Al' cl' a.links :: rowS As' cs' a.shifts :: Zs.map eraRow) (.cellB rfl (by (focus repeat' constructor)) rfl rfl) (by repeat (first | exact SubO.nil | (apply SubO.cons; (focus repeat' constructor)) | exact .refl _ | apply SubO.drop)) ⟨Ar', cr', Az', cz', Al', cl', As', cs', Zs, by rw [srcV, ← hl]; rfl, hz, rfl⟩
theorem copy_spec (Ar Az Al As : Option Addr) (cr cz cl cs : Nat) (a : DSource) (w : World) (hA : RdSource w Ar Az Al As cr cz cl cs a) (hn : Fits a) :
    Does Tryd.prog 16 [srcV Ar Az Al As cr cz cl cs a] w (NewSrc a) := (copyQ_spec Ar Az Al As cr cz cl cs a w hA hn).monoO fun _ _ h => newSrc_of h
end Go.Proofs.YtfhjfpikngcknaaDoor
