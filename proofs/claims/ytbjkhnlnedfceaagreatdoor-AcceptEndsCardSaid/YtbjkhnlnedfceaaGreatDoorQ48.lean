/- Contract: analemmalaw25.AcceptEnds. Arguments opened: drafts of sets (analemmalaw17), truth values. -/
import Derived.Test.YtbjkhnlnedfceaaGreatDoorQ46
import Derived.Test.YtbjkhnlnedfceaaGreatDoorQ37
import Derived.Test.YtbjkhnlnedfceaaGreatDoorQ45
import Derived.Test.YtbjkhnlnedfceaaGreatDoorQ40
set_option maxHeartbeats 4000000
set_option linter.unusedVariables false
set_option linter.unusedSimpArgs false
set_option pp.deepTerms true
set_option pp.maxSteps 1000000
namespace Go.Proofs.YtbjkhnlnedfceaaGreatDoor
open Go Go.RowKit Go.Wk
attribute [local irreducible] W RL Does thenQ blockQ retQ Calls Pu Stp RD Qy Ay DoesIn made17
theorem accT0 (Ar Az Al As : Option Addr) (cr cz cl cs : Nat) (a : DSource) (w : World) (h : AccOk w Ar Az Al As cr cz cl cs a) (hf : accD a = none) :
  Does Tryz.prog 20 [srcV Ar Az Al As cr cz cl cs a] w (fun v O => v = .tuple #[.agg #[.int .i64 0, .int .i64 0, .int .i64 0], .int .i64 0] ∧ O = []) := by
 have := accS h
 rwa [hf] at this
theorem DrSet.some {l : List DRule} (h : DrSet l) : 1 ≤ l.length := by
 obtain ⟨_, _, _, ⟨r, hr, _⟩, _⟩ := h.saves
 cases l with
 | nil => cases hr
 | cons a l => simp
theorem near_rd {w : World} {R : Option Addr} {r bz be : Nat} {rs : List DRule} {x : DRule} (h1 : (It.row (.slice R rs.length r) 39 11 rs.length (rs.flatMap DRule.enc)).sat w) (h2 : (It.blk bz [.string ⟨#[90]⟩, .slice (some ⟨be, 0, none⟩) 3 3] 43).sat w) (h3 : (It.blk be ((nearL x).flatMap DEra.enc) 48).sat w) :
  RdSource w R (some ⟨bz, 0, none⟩) none none r 1 0 0 (nearS rs x) :=
 ex_rd (es := nearL x) (ce := 3) (rowRd DRule.len h1) h2 (litRd (l := nearL x) DEra.len (Nat.le_refl 3) (by decide) h3) (nilRd _ _ _) (nilRd _ _ _)
theorem hour_rd {w : World} {bz be : Nat} {h : Int} {u : DUntil} (hu : hourU h = u) (h2 : (It.blk bz [.string ⟨#[90]⟩, .slice (some ⟨be, 0, none⟩) 3 3] 43).sat w) (h3 : (It.blk be ([eraL may10, eraL u, eraL noTil].flatMap DEra.enc) 48).sat w) :
  RdSource w none (some ⟨bz, 0, none⟩) none none 0 1 0 0 (hourS h) := by
 subst hu
 exact ex_rd (rs := []) (ls := []) (ss := []) (es := [eraL may10, eraL (hourU h), eraL noTil]) (ce := 3) (nilRd _ _ _) h2 (litRd (l := [eraL may10, eraL (hourU h), eraL noTil]) DEra.len (Nat.le_refl 3) (by decide) h3) (nilRd _ _ _) (nilRd _ _ _)
theorem wkEnds250 {G G' : Prop} (k : G') (h : Hold G' → G := by intro k9; (first | (refine js ?_; (first | (refine callO (fun w' hw hO => faultT R1 (some ⟨bz, 0, none⟩) none none r1 1 0 0 (nearS rs ⟨nm, fr, to, mo, ⟨dk, dw, dd⟩, ⟨us, ub⟩, sv, y⟩) ⟨2, 0, 1⟩ _ w' (hsm.acc (hL.up hw) (hG.up hw) (near_rd (hO.of (A := .row (.slice R1 _ r1) _ _ _ _) (by repeat' constructor)) (hO.of (A := .blk bz _ _) (by repeat' constructor)) (hO.of (A := .blk be _ _) (by repeat' constructor)))) hfa) ?_) | (refine callE hwk ?_))) | refine walk ?_); exact k9.out) : G := h ⟨k⟩
theorem wkEnds251 {G G' : Prop} (k : G') (h : Hold G' → G := by intro k9; (first | (refine js ?_; (first | (refine callO (fun w' hw hO => faultT none (some ⟨bz2, 0, none⟩) none none 0 1 0 0 (hourS h) ⟨2, 0, 1⟩ 12 w' ((hour_sml h).acc (hL.up hw) (hG.up hw) (hour_rd hu (hO.of (A := .blk bz2 _ _) (by repeat' constructor)) (hO.of (A := .blk be2 _ _) (by repeat' constructor)))) hfa) ?_) | (refine callE hwk ?_))) | refine walk ?_); exact k9.out) : G := h ⟨k⟩
theorem wkEnds252 {G G' : Prop} (k : G') (h : Hold G' → G := by intro k9; (first | (refine js ?_; (first | (refine callO (fun w' hw hO => accT0 none (some ⟨bz2, 0, none⟩) none none 0 1 0 0 (hourS h) w' ((hour_sml h).acc (hL.up hw) (hG.up hw) (hour_rd hu (hO.of (A := .blk bz2 _ _) (by repeat' constructor)) (hO.of (A := .blk be2 _ _) (by repeat' constructor)))) hfa) ?_) | (refine callE hwk ?_))) | refine walk ?_); exact k9.out) : G := h ⟨k⟩
theorem PuEnds251 {G : Prop} (h : G := by (first | (apply Pu_remE; rfl; rfl; omega; omega) | (apply Pu_add8; rfl; rfl; omega) | (apply Pu_conv64; rfl; omega) | (apply Pu_mul; rfl; rfl; (constructor <;> omega)))) : G := h
set_option maxHeartbeats 8000000 in
theorem acceptEnds_spec (B : Option Addr) (c : Nat) (l : List Int) (less : Int) (near : Bool) (w : World) (hL : LibW w) (hG : Glob w) (hB : RdSl w B c byEnc 1 l) (hr : ∀ x ∈ l, inR .u8 x) (hx : inR .u8 less) :
  Does Tryz.prog 5 [.slice B l.length c, .int .u8 less, .bool near] w (fun v O => v = .bool true ∧ O = []) := by
 have hwk := fun w' (hw : Bel w.heap.size w w') => works25_spec w' (hL.up hw) (hG.up hw)
 have hm17 := fun w' (hw : Bel w.heap.size w w') => made17_spec B c l rN w' (hB.up hw) hr
 have hS := made17_set l rN
 have h5 := made17_len l rN
 have hn := made17_name' l rN
 rw [inR_u8] at hx
 generalize made17 l rN = rs at *
 have h1 := hS.some
 obtain ⟨x, hxg⟩ : ∃ x, rs[rs.length - 1]? = some x := ⟨_, List.getElem?_eq_getElem (by omega)⟩
 have hacc := near_acc hS h5 hn hxg
 have hsm := near_sml hS h5 hn x
 have hX := hS.rule x (List.mem_of_getElem? hxg)
 have hle := hS.least
 have hx1 : ∀ k v, x.enc[k]? = some v → (rs.flatMap DRule.enc)[((rs.length : Int) - 1).toNat * 11 + k]? = some v := fun k v hk => by
  rw [show ((rs.length : Int) - 1).toNat = rs.length - 1 by omega]
  exact flat_get DRule.len rs _ x k v hxg hk
 have f0 := hX.f0
 have f1 := hX.f1
 have hc := hX.clk
 clear hX hxg
 obtain ⟨nm, fr, to, mo, ⟨dk, dw, dd⟩, ⟨us, ub⟩, sv, y⟩ := x
 simp only [DRule.enc] at hx1
 dsimp only at f0 f1 hc
 refine Does_of_W Tryz.func5 rfl rfl rfl rfl ?_
 repeat (first | (apply RL_pu; rfl; (first | (apply Pu_indexAddrH; rfl; rfl; omega; omega; (intro w' _ hO; exact row_some (hO.of (A := .row (.slice R1 rs.length r1) _ _ _ _) (by repeat' constructor)) (by omega))) | (apply Pu_loadRN; rfl; (focus repeat' constructor); exact hx1; rfl))) | (refine js ?_; (first | (apply Stp_call (h := fun w' hw _ => hm17 w' hw); rfl; rintro v O' ⟨R1, r1, rfl, rfl⟩) | (refine bx ?_; intro bk))) | refine walk1 ?_)
 rename_i b8 b9 be bz
 generalize bk = b11
 repeat (first | (refine js ?_; (first | (refine callO (fun w' _ hO => least_spec R1 r1 rs w' (rowRd DRule.len (hO.of (A := .row (.slice R1 _ r1) _ _ _ _) (by repeat' constructor)))) ?_) | (refine bx ?_; intro bk))) | refine walk ?_)
 have hsec : nearSec rs ⟨nm, fr, to, mo, ⟨dk, dw, dd⟩, ⟨us, ub⟩, sv, y⟩ = if ub = 1 then us - 86400 + leastD rs else us - 86400 := rfl
 cases near with
 | true =>
  refine W_cond rfl (fun hb => ?_) (fun hb => ?_)
  ·rw [if_pos (of_decide_eq_true hb)] at hsec
   rw [hsec] at hacc
   repeat (first | (refine js ?_; (refine bx ?_; intro bk)) | refine walk ?_)
   refine W_cond rfl (fun hs => ?_) (fun hs => ?_)
   ·rw [if_pos (of_decide_eq_true hs)] at hacc
    have hfa := faultB_of hacc
    repeat (first | refine wkEnds250 ?_ | (refine js ?_; (refine bx ?_; intro bk)))
    exact rtA
   ·rw [if_neg (of_decide_eq_false hs)] at hacc
    have hfa := faultB_of hacc
    repeat (first | refine wkEnds250 ?_ | (refine js ?_; (refine bx ?_; intro bk)))
    exact rtA
  ·rw [if_neg (of_decide_eq_false hb)] at hsec
   rw [hsec] at hacc
   repeat (first | (refine js ?_; (refine bx ?_; intro bk)) | refine walk ?_)
   refine W_cond rfl (fun hs => ?_) (fun hs => ?_)
   ·rw [if_pos (of_decide_eq_true hs)] at hacc
    have hfa := faultB_of hacc
    repeat (first | refine wkEnds250 ?_ | (refine js ?_; (refine bx ?_; intro bk)))
    exact rtA
   ·rw [if_neg (of_decide_eq_false hs)] at hacc
    have hfa := faultB_of hacc
    repeat (first | refine wkEnds250 ?_ | (refine js ?_; (refine bx ?_; intro bk)))
    exact rtA
 | false =>
  have hm0 := Int.emod_nonneg less (b := 24) (by decide)
  have hm1 := Int.emod_lt_of_pos less (b := 24) (by decide)
  obtain ⟨h, hh⟩ : ∃ h, 60 + less % 24 = h := ⟨_, rfl⟩
  have ha := hour_acc h (by omega) (by omega)
  refine W_cond rfl (fun hb => ?_) (fun hb => ?_)
  all_goals
   clear hacc hsm hsec hb
   repeat (first | (apply RL_pu; rfl; exact PuEnds251) | (refine js ?_; (refine bx ?_; intro bk)) | refine walk1 ?_)
   rw [hh]
   have h60 : 60 ≤ h ∧ h ≤ 83 := by omega
   clear hh hm0 hm1
   rename_i b16
   generalize bk = b17
   refine W_cond rfl (fun hq => ?_) (fun hq => ?_)
   ·have hu : hourU h = ⟨true, 1900, 5, ⟨1, 0, 12⟩, ⟨(h - 48) * 3600, 0⟩⟩ := if_pos (of_decide_eq_true hq)
    repeat (first | (apply RL_pu; rfl; exact PuEnds251) | (refine js ?_; (refine bx ?_; intro bk)) | refine walk1 ?_)
    rename_i be2 bz2
    generalize bk = b18
    refine W_cond rfl (fun hs => ?_) (fun hs => ?_)
    ·have hfa := faultB_of (show accD (hourS h) = some (⟨2, 0, 1⟩, 12) by rw [ha, if_neg (by have := of_decide_eq_true hs; omega)])
     repeat (first | refine wkEnds251 ?_ | (refine js ?_; (refine bx ?_; intro bk)))
     exact rtA
    ·have hfa : accD (hourS h) = none := by rw [ha, if_pos (by have := of_decide_eq_false hs; omega)]
     repeat (first | refine wkEnds252 ?_ | (refine js ?_; (refine bx ?_; intro bk)))
     exact rtA
   ·have hu : hourU h = ⟨true, 1900, 5, ⟨1, 0, 11⟩, ⟨(h - 24) * 3600, 0⟩⟩ := if_neg (of_decide_eq_false hq)
    repeat (first | (apply RL_pu; rfl; exact PuEnds251) | (refine js ?_; (refine bx ?_; intro bk)) | refine walk1 ?_)
    rename_i be2 bz2
    generalize bk = b18
    refine W_cond rfl (fun hs => ?_) (fun hs => ?_)
    ·have hfa := faultB_of (show accD (hourS h) = some (⟨2, 0, 1⟩, 12) by rw [ha, if_neg (by have := of_decide_eq_true hs; omega)])
     repeat (first | refine wkEnds251 ?_ | (refine js ?_; (refine bx ?_; intro bk)))
     exact rtA
    ·have hfa : accD (hourS h) = none := by rw [ha, if_pos (by have := of_decide_eq_false hs; omega)]
     repeat (first | refine wkEnds252 ?_ | (refine js ?_; (refine bx ?_; intro bk)))
     exact rtA
end Go.Proofs.YtbjkhnlnedfceaaGreatDoor
namespace Go.Proofs.YtbjkhnlnedfceaaGreatDoor
open Go Go.RowKit Go.Wk Go.ChangeShapes Go.WideShapes Go.ChangeAt
section
variable {H : Type} {enc : TypeId × Value → H} {w : World} {sp : Nat → Bool} {held : Bool}
set_option maxRecDepth 100000 in
theorem open_bool {v : Value} {r : Reach} {b0 : Nat} {d : DataW H} {ps : List MemPlace} (hv : Value.okWide Tryz.prog w r b0 4 v) (_h : DataW.Trod enc Tryz.prog w 0 sp held 4 v d ps) : ∃ x : Bool, v = .bool x := okWide_bool Tryz.underlying4 hv
set_option maxRecDepth 100000 in
theorem open_d17 {v : Value} {r : Reach} {b0 : Nat} {d : DataW H} {ps : List MemPlace} (hv : Value.okWide Tryz.prog w r b0 63 v) (h : DataW.Trod enc Tryz.prog w 0 sp held 63 v d ps) :
  ∃ B c l, v = .slice B l.length c ∧ RdSl w B c byEnc 1 l ∧ ∀ x ∈ l, inR .u8 x := by
 obtain ⟨a, len, cap, rfl⟩ := okWide_slice Tryz.underlying63 hv
 obtain ⟨fuel, h⟩ := h
 have h2 : DataW.trod enc Tryz.prog w 0 sp held fuel 63 [.slice a len cap] = some (d, ps) := h
 obtain ⟨B, l, cb, e, h3, h4⟩ := slice_rd Tryz.underlying63 byEnc (inR .u8) (sz := 1) (by kernel_rfl) (fun n cs y h => rd_by h) h2
 exact ⟨B, cb, l, e, h3, h4⟩
end
end Go.Proofs.YtbjkhnlnedfceaaGreatDoor
