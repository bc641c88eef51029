/- Contracts: footer.abbr, always, twice, find. Contracts: slices.Equal at three types. Contract: slices.Equal at numbers. Contracts: footer.Of, Year. Dates and TZ strings compare as the data do. Rules: make with a length; an index that is a number, in an own block. -/
import Derived.Test.YtonjepladadmhaaGreatDoorQ15
import Derived.Test.YtonjepladadmhaaGreatDoorQ37
import Derived.Test.YtonjepladadmhaaGreatDoorQ30
import Derived.Test.YtonjepladadmhaaGreatDoorQ08
import Derived.Test.YtonjepladadmhaaGreatDoorQ26
import Derived.Laws.OwnMore
import Derived.Test.YtonjepladadmhaaGreatDoorQ14
set_option maxHeartbeats 4000000
set_option linter.unusedVariables false
set_option linter.unusedSimpArgs false
namespace Go.Proofs.YtonjepladadmhaaGreatDoor
open Go Go.RowKit Go.Wk
attribute [local irreducible] W RL Does thenQ blockQ retQ Calls Pu Stp RD Qy Ay DoesIn
structure FtE (e : DEra) : Prop where
 f : e.format.size ≤ 1000000000
 o : -1000000 ≤ e.off ∧ e.off ≤ 1000000
structure FtRu (r : DRule) : Prop where
 l : r.letter.size ≤ 1000000000
 v : -1000000 ≤ r.save ∧ r.save ≤ 1000000
theorem ftAbbr_spec (e : DEra) (r : DRule) (w : World) (hL : LibW w) (he : FtE e) (hr : FtRu r) :
  Does Tryz.prog 116 [.agg e.enc.toArray, .agg r.enc.toArray] w (fun v O => v = .string (abbrE e r.save r.letter) ∧ O = []) := by
 have h := fun w' (hw : Bel w.heap.size w w') => fabbr_spec e.format r.letter e.off r.save w' (hL.up hw) he.f hr.l (by have := he.o; unfold I64; omega) (by have := hr.v; unfold I64; omega)
 unfold xpV at h
 have h2 : ∀ w', Bel w.heap.size w w' → Does Tryz.prog 78 [.string e.format, .int .i64 e.off, .agg #[.int .i64 r.save, .string r.letter]] w' (fun v O => (∃ er, v = .tuple #[.string (abbrE e r.save r.letter), .int .i64 er]) ∧ O = []) := fun w' hw =>
  (h w' hw).mono fun v O hv => ⟨⟨_, hv.1⟩, hv.2⟩
 clear h
 generalize abbrE e r.save r.letter = res at *
 obtain ⟨nm, fr, to, mo, ⟨dk, dw, dd⟩, ⟨cs, cb⟩, sv, le⟩ := r
 obtain ⟨off, kd, esv, st, fm, ⟨ui, uy, um, ⟨ud1, ud2, ud3⟩, ⟨uc1, uc2⟩⟩⟩ := e
 show Does _ _ [.agg #[.int .i64 off, .int .i64 kd, .int .i64 esv, .string st, .string fm, .bool ui, .int .i64 uy, .int .i64 um, .int .i64 ud1, .int .i64 ud2, .int .i64 ud3, .int .i64 uc1, .int .i64 uc2], .agg #[.string nm, .int .i64 fr, .int .i64 to, .int .i64 mo, .int .i64 dk, .int .i64 dw, .int .i64 dd, .int .i64 cs, .int .i64 cb, .int .i64 sv, .string le]] w _
 refine Does_of_W Tryz.func116 rfl rfl rfl rfl ?_
 repeat (first | (refine js ?_; (first | (apply Stp_call (h := fun w' hw _ => h2 w' hw); rfl; rintro v O' ⟨⟨er, rfl⟩, rfl⟩) | (refine bx ?_; intro bk))) | refine walk ?_)
 exact rtA
theorem ftAlways_spec (e : DEra) (r : DRule) (w : World) (hL : LibW w) (he : FtE e) (hr : FtRu r) :
  Does Tryz.prog 59 [.agg e.enc.toArray, .agg r.enc.toArray] w (fun v O => v = .agg (alwaysF e r.save r.letter).enc.toArray ∧ O = []) := by
 have ha := fun w' (hw : Bel w.heap.size w w') => ftAbbr_spec e r w' (hL.up hw) he hr
 have ho := he.o
 have hv := hr.v
 unfold alwaysF
 generalize abbrE e r.save r.letter = res at *
 obtain ⟨nm, fr, to, mo, ⟨dk, dw, dd⟩, ⟨cs, cb⟩, sv, le⟩ := r
 obtain ⟨off, kd, esv, st, fm, ⟨ui, uy, um, ⟨ud1, ud2, ud3⟩, ⟨uc1, uc2⟩⟩⟩ := e
 dsimp only at ho hv ⊢
 show Does _ _ [.agg #[.int .i64 off, .int .i64 kd, .int .i64 esv, .string st, .string fm, .bool ui, .int .i64 uy, .int .i64 um, .int .i64 ud1, .int .i64 ud2, .int .i64 ud3, .int .i64 uc1, .int .i64 uc2], .agg #[.string nm, .int .i64 fr, .int .i64 to, .int .i64 mo, .int .i64 dk, .int .i64 dw, .int .i64 dd, .int .i64 cs, .int .i64 cb, .int .i64 sv, .string le]] w _
 refine Does_of_W Tryz.func59 rfl rfl rfl rfl ?_
 repeat (first | refine walk ?_ | (refine jn ?_; (try intro F); (first | (refine bx ?_; intro bk) | (refine stA ?_) | (apply Stp_pu; exact PuA)); refine fin ?_) | (apply RD_W; rfl; intro bk))
 refine W_cond rfl (fun hc => ?_) (fun hc => ?_)
 ·obtain rfl : sv = 0 := of_decide_eq_true hc
  rw [if_pos rfl]
  repeat (first | refine walk ?_ | (refine jg ?_; (try intro F); (first | (refine callE ha ?_) | (refine bx ?_; intro bk) | (refine stA ?_)); refine fin ?_) | (refine jn ?_; (try intro F); (first | (refine bx ?_; intro bk) | (refine stA ?_) | (apply Stp_pu; exact PuA)); refine fin ?_) | (apply RD_W; rfl; intro bk))
  exact ret_1 _ [] (.cellB rfl (by repeat' constructor) rfl rfl) .nil ⟨rfl, rfl⟩
 ·rw [if_neg (of_decide_eq_false hc)]
  repeat (first | refine walk ?_ | (refine jg ?_; (try intro F); (first | (refine callE ha ?_) | (refine bx ?_; intro bk) | (refine stA ?_)); refine fin ?_) | (refine jn ?_; (try intro F); (first | (refine bx ?_; intro bk) | (refine stA ?_) | (apply Stp_pu; exact PuA)); refine fin ?_) | (apply RD_W; rfl; intro bk))
  exact ret_1 _ [] (.cellB rfl (by repeat' constructor) rfl rfl) .nil ⟨rfl, rfl⟩
theorem ftTwice_spec (e : DEra) (r q : DRule) (w : World) (hL : LibW w) (hG : Glob w) (hF : FtG w) (he : FtE e) (hr : FtRu r) (hq : FtRu q) :
  Does Tryz.prog 60 [.agg e.enc.toArray, .agg r.enc.toArray, .agg q.enc.toArray] w (fun v O => v = .agg (twiceF e r q).enc.toArray ∧ O = []) := by
 have ha := fun w' (hw : Bel w.heap.size w w') => ftAbbr_spec e q w' (hL.up hw) he hq
 have hb := fun w' (hw : Bel w.heap.size w w') => ftAbbr_spec e r w' (hL.up hw) he hr
 have hc := fun w' (hw : Bel w.heap.size w w') => fdate_spec r e.off 0 w' (hG.up hw) (hF.up hw)
 have hd := fun w' (hw : Bel w.heap.size w w') => fdate_spec q e.off r.save w' (hG.up hw) (hF.up hw)
 have ho := he.o
 have hv := hr.v
 unfold twiceF
 unfold dErrV at hc hd
 generalize abbrE e q.save q.letter = res1 at *
 generalize abbrE e r.save r.letter = res2 at *
 generalize dateD r e.off 0 = x1 at *
 generalize dateD q e.off r.save = x2 at *
 obtain ⟨⟨x11, x12, x13, x14, x15⟩, x16⟩ := x1
 obtain ⟨⟨x21, x22, x23, x24, x25⟩, x26⟩ := x2
 obtain ⟨nm, fr, to, mo, ⟨dk, dw, dd⟩, ⟨cs, cb⟩, sv, le⟩ := r
 obtain ⟨nm2, fr2, to2, mo2, ⟨dk2, dw2, dd2⟩, ⟨cs2, cb2⟩, sv2, le2⟩ := q
 obtain ⟨off, kd, esv, st, fm, ⟨ui, uy, um, ⟨ud1, ud2, ud3⟩, ⟨uc1, uc2⟩⟩⟩ := e
 dsimp only [DDate.enc] at ho hv hc hd ⊢
 show Does _ _ [.agg #[.int .i64 off, .int .i64 kd, .int .i64 esv, .string st, .string fm, .bool ui, .int .i64 uy, .int .i64 um, .int .i64 ud1, .int .i64 ud2, .int .i64 ud3, .int .i64 uc1, .int .i64 uc2], .agg #[.string nm, .int .i64 fr, .int .i64 to, .int .i64 mo, .int .i64 dk, .int .i64 dw, .int .i64 dd, .int .i64 cs, .int .i64 cb, .int .i64 sv, .string le], .agg #[.string nm2, .int .i64 fr2, .int .i64 to2, .int .i64 mo2, .int .i64 dk2, .int .i64 dw2, .int .i64 dd2, .int .i64 cs2, .int .i64 cb2, .int .i64 sv2, .string le2]] w _
 refine Does_of_W Tryz.func60 rfl rfl rfl rfl ?_
 repeat (first | refine walk ?_ | (refine jg ?_; (try intro F); (first | (refine callE ha ?_) | (refine callE hb ?_) | (refine callE hc ?_) | (refine callE hd ?_) | (refine bx ?_; intro bk) | (refine stA ?_)); refine fin ?_) | (refine jn ?_; (try intro F); (first | (refine bx ?_; intro bk) | (refine stA ?_) | (apply Stp_pu; exact PuA)); refine fin ?_) | (apply RD_W; rfl; intro bk))
 exact ret_1 _ [] (.cellB rfl (by repeat' constructor) rfl rfl) .nil ⟨rfl, rfl⟩
theorem accTe (Ar Az Al As : Option Addr) (cr cz cl cs : Nat) (a : DSource) (p : DPlace) (e : Int) (w : World) (h : AccOk w Ar Az Al As cr cz cl cs a) (hf : accD a = some (p, e)) :
  Does Tryz.prog 19 [srcV Ar Az Al As cr cz cl cs a] w (fun v O => (∃ p1 p2 p3, v = .tuple #[.agg #[.int .i64 p1, .int .i64 p2, .int .i64 p3], .int .i64 e]) ∧ O = []) := by
 have := acc_spec Ar Az Al As cr cz cl cs a w h.L h.G h.A h.S h.V h.Z
 rw [hf] at this
 exact this.mono fun v O hv => ⟨⟨p.part, p.index, p.era, hv.1⟩, hv.2⟩
theorem accTn (Ar Az Al As : Option Addr) (cr cz cl cs : Nat) (a : DSource) (w : World) (h : AccOk w Ar Az Al As cr cz cl cs a) (hf : accD a = none) :
  Does Tryz.prog 19 [srcV Ar Az Al As cr cz cl cs a] w (fun v O => v = .tuple #[.agg #[.int .i64 0, .int .i64 0, .int .i64 0], .int .i64 0] ∧ O = []) := by
 have := acc_spec Ar Az Al As cr cz cl cs a w h.L h.G h.A h.S h.V h.Z
 rwa [hf] at this
theorem find_err (Ar Az Al As : Option Addr) (cr cz cl cs : Nat) (a : DSource) (zone : Int) (p : DPlace) (e : Int) (w : World) (h : AccOk w Ar Az Al As cr cz cl cs a) (hf : accD a = some (p, e)) (hne : e ≠ 0) :
  Does Tryz.prog 51 [srcV Ar Az Al As cr cz cl cs a, .int .i64 zone] w (fun v O => v = .tuple #[.slice none 0 0, .slice none 0 0, .int .i64 e] ∧ O = []) := by
 have ha := fun w' (hw : Bel w.heap.size w w') => accTe Ar Az Al As cr cz cl cs a p e w' (h.up hw) hf
 have hb : (!decide (e = 0)) = true := by rw [decide_eq_false hne]; rfl
 refine Does_of_W Tryz.func51 rfl rfl rfl rfl ?_
 repeat (first | (apply RL_pu; rfl; (apply Pu_neqB'; rfl; rfl; exact hb)) | (refine js ?_; (first | (apply Stp_call (h := fun w' hw _ => ha w' hw); rfl; rintro v O' ⟨⟨p1, p2, p3, rfl⟩, rfl⟩) | (refine bx ?_; intro bk))) | refine walk1 ?_)
 exact ret_3 _ _ _ [] (.tmp rfl) (.tmp rfl) (.tmp rfl) .nil ⟨rfl, rfl⟩
theorem PuFtF1 {G : Prop} (h : G := by (apply Pu_lssB; rfl; rfl; exact b1)) : G := h
theorem PuFtF2 {G : Prop} (h : G := by (first | exact PuFtF1 | (apply Pu_geqB; rfl; rfl; exact b2))) : G := h
theorem find_far (Ar Az Al As : Option Addr) (cr cz cl cs : Nat) (a : DSource) (zone : Int) (w : World) (h : AccOk w Ar Az Al As cr cz cl cs a) (hf : accD a = none) (hz : zone < 0 ∨ (a.zones.length : Int) ≤ zone) :
  Does Tryz.prog 51 [srcV Ar Az Al As cr cz cl cs a, .int .i64 zone] w (fun v O => v = .tuple #[.slice none 0 0, .slice none 0 0, .int .i64 3] ∧ O = []) := by
 have ha := fun w' (hw : Bel w.heap.size w w') => accTn Ar Az Al As cr cz cl cs a w' (h.up hw) hf
 refine Does_of_W Tryz.func51 rfl rfl rfl rfl ?_
 by_cases h0 : zone < 0
 ·have b1 : decide (zone < 0) = true := decide_eq_true h0
  repeat (first | refine und ?_ | (apply RL_pu; rfl; exact PuFtF1) | (refine js ?_; (first | (refine callE ha ?_) | (refine bx ?_; intro bk))) | refine walk1 ?_)
  exact ret_3 _ _ _ [] (.tmp rfl) (.tmp rfl) (.tmp rfl) .nil ⟨rfl, rfl⟩
 ·have b1 : decide (zone < 0) = false := decide_eq_false h0
  have b2 : decide ((a.zones.length : Int) ≤ zone) = true := decide_eq_true (by omega)
  repeat (first | refine und ?_ | (apply RL_pu; rfl; exact PuFtF2) | (refine js ?_; (first | (refine callE ha ?_) | (refine bx ?_; intro bk))) | refine walk1 ?_)
  exact ret_3 _ _ _ [] (.tmp rfl) (.tmp rfl) (.tmp rfl) .nil ⟨rfl, rfl⟩
def FindR (A : Option Addr) (n c : Nat) (R : List DRule) (v : Value) (O : List It) : Prop :=
 ∃ B d, v = .tuple #[.slice A n c, .slice B R.length d, .int .i64 0] ∧ O = [.row (.slice B R.length d) 27 11 R.length (R.flatMap DRule.enc)]
theorem PuFtF3 {G : Prop} (h : G := by (first | exact PuFtF2 | (apply Pu_indexAddr; rfl; rfl; omega; omega; first | exact hna | exact hna2) | (apply Pu_loadO1; rfl; exact hca 1 _ rfl) | (apply Pu_loadON; rfl; exact hca2; rfl) | (apply Pu_neqB'; rfl; rfl; exact b3))) : G := h
theorem find_ok (Ar Az Al As : Option Addr) (cr cz cl cs : Nat) (a : DSource) (k : Nat) (z : DZone) (A : Option Addr) (c : Nat) (w : World) (h : AccOk w Ar Az Al As cr cz cl cs a) (hf : accD a = none) (hk : a.zones[k]? = some z)
  (hna : Az ≠ none) (hca : CellsAt w ((adr Az).add (k * 2)) [.string z.name, .slice A z.eras.length c]) (hE : RdSl w A c DEra.enc 13 z.eras) (hne : z.eras ≠ []) :
  Does Tryz.prog 51 [srcV Ar Az Al As cr cz cl cs a, .int .i64 k] w (FindR A z.eras.length c (rulesE a z.eras)) := by
 have ha := fun w' (hw : Bel w.heap.size w w') => accTn Ar Az Al As cr cz cl cs a w' (h.up hw) hf
 have hl : 0 < z.eras.length := List.length_pos_iff.2 hne
 have hkl : k < a.zones.length := (List.getElem?_eq_some_iff.1 hk).1
 have hlz := h.A.zle
 have hlc := h.A.zcap
 have hel := hE.le
 have hec := hE.cap
 have hnr := h.S.nr
 obtain ⟨e, he⟩ : ∃ e, z.eras[z.eras.length - 1]? = some e := ⟨_, List.getElem?_eq_getElem (by omega)⟩
 have hle : lastE z.eras = e := by
  unfold lastE
  rw [List.getD_eq_getElem?_getD, he]; rfl
 have hof := fun w' (hw : Bel w.heap.size w w') => ofN_spec Ar Az Al As cr cz cl cs a e.set w' (h.A.up hw) hnr
 unfold rulesE
 rw [hle]
 obtain ⟨hna2, hca2⟩ := hE.rd _ _ he
 rw [show z.eras.length - 1 = ((z.eras.length : Int) - 1).toNat by omega] at hca2
 clear hle he
 have b1 : decide ((k : Int) < 0) = false := decide_eq_false (by omega)
 have b2 : decide ((a.zones.length : Int) ≤ (k : Int)) = false := decide_eq_false (by omega)
 simp only [maxLen] at hlc hec
 obtain ⟨off, kd, esv, st, fm, ⟨ui, uy, um, ⟨ud1, ud2, ud3⟩, ⟨uc1, uc2⟩⟩⟩ := e
 change CellsAt w _ [.int .i64 off, .int .i64 kd, .int .i64 esv, .string st, .string fm, .bool ui, .int .i64 uy, .int .i64 um, .int .i64 ud1, .int .i64 ud2, .int .i64 ud3, .int .i64 uc1, .int .i64 uc2] at hca2
 dsimp only at hof ⊢
 refine Does_of_W Tryz.func51 rfl rfl rfl rfl ?_
 by_cases hk2 : kd = 2
 ·have b3 : (!decide (kd = 2)) = false := by rw [decide_eq_true hk2]; rfl
  rw [if_pos hk2]
  repeat (first | (apply RL_pu; rfl; exact PuFtF3) | (refine js ?_; (first | (refine callE ha ?_) | (apply Stp_call (h := fun w' hw _ => hof w' hw); rfl; rintro v O' ⟨B, d, rfl, rfl⟩) | (refine bx ?_; intro bk))) | refine walk1 ?_)
  exact ret_3 _ _ _ [.row (.slice B (ofB a.rules st).length d) 27 11 (ofB a.rules st).length ((ofB a.rules st).flatMap DRule.enc)] (.tmp rfl) (.tmp rfl) (.tmp rfl) SOA ⟨B, d, rfl, rfl⟩
 ·have b3 : (!decide (kd = 2)) = true := by rw [decide_eq_false hk2]; rfl
  rw [if_neg hk2]
  refine W_nil 27 11 ?_
  repeat (first | (apply RL_pu; rfl; exact PuFtF3) | (refine js ?_; (first | (refine callE ha ?_) | (refine bx ?_; intro bk))) | refine walk1 ?_)
  exact ret_3 _ _ _ [.row (.slice none 0 0) 27 11 0 []] (.tmp rfl) (.tmp rfl) (.tmp rfl) SOA ⟨none, 0, rfl, rfl⟩
end Go.Proofs.YtonjepladadmhaaGreatDoor
namespace Go.Proofs.YtonjepladadmhaaGreatDoor
open Go Go.RowKit Go.Wk
attribute [local irreducible] W RL Does thenQ blockQ retQ Calls Pu Stp RD Qy Ay
end Go.Proofs.YtonjepladadmhaaGreatDoor
namespace Go.Proofs.YtonjepladadmhaaGreatDoor
open Go Go.RowKit Go.Wk
attribute [local irreducible] W RL Does thenQ blockQ retQ Calls Pu Stp RD Qy Ay DoesIn
end Go.Proofs.YtonjepladadmhaaGreatDoor
namespace Go.Wk
open Go Go.RowKit
section
variable {P : Program} {n : Nat} {wr : World} {fr : Fr} {O : List It} {ty : TypeId}
theorem Pu_neqPtr {t t' : TypeId} {x : Operand} {ad : Addr} (hu : ∃ te, P.underlying t = some (.pointer te)) (hx : ev fr x = some (.pointer (some ad))) : Pu P n wr fr O (.binOp .neq t x (.const (.pointer none)) t') ty (.bool true) := fun a w hs _ _ _ _ => by
 obtain ⟨te, hu⟩ := hu
 have hc : a.eval (.const (.pointer none)) = .pointer none := rfl
 have h : (binOp .neq t (.pointer (some ad)) (.pointer none)).run P w = .ok (.bool true) w := by
  have : ∀ d, (Op.equalIn (d + 1) t (.pointer (some ad)) (.pointer none)).run P w = .ok false w := fun d => by
   simp [Op.equalIn, run_underlying hu]
  have hb : binOp .neq t (.pointer (some ad)) (.pointer none) = (do pure (.bool (!(← Op.equal t (.pointer (some ad)) (.pointer none))))) := rfl
  rw [hb, show Op.equal t (.pointer (some ad)) (.pointer none) = Op.equalIn (9999 + 1) t (.pointer (some ad)) (.pointer none) from rfl]
  simp only [Sem.run_bind, this 9999, Result.andThen_ok, Sem.run_pure, Bool.not_false]
 have hg : (eqGuard .neq t x (.const (.pointer none)) (.pointer (some ad)) (.pointer none)).run P w = .ok () w := by
  simp [eqGuard]
 simp only [execOp, hs.sim.ev hx, hc, Sem.run_bind, hg, Result.andThen_ok, h, Sem.run_pure]
end
end Go.Wk
namespace Go.Proofs.YtonjepladadmhaaGreatDoor
open Go Go.RowKit Go.Wk
attribute [local irreducible] W RL Does thenQ blockQ retQ Calls Pu Stp RD Qy Ay DoesIn
theorem PuFtO0 {G : Prop} (h : G := by (apply Pu_neqB'; rfl; rfl; exact hb)) : G := h
theorem QyFtO0 {G : Prop} (h : G := by first | (apply Qy_y; rfl; exact PuFtO0) | exact QyA) : G := h
theorem QFFtO0 {G : Prop} (h : G := by repeat (first | exact QF.nil | (apply QF.mk; rfl; rfl; decide +kernel; exact QyFtO0))) : G := h
theorem of_err (Ar Az Al As : Option Addr) (cr cz cl cs : Nat) (a : DSource) (zone e : Int) (w : World) (h : ∀ w', Bel w.heap.size w w' → Does Tryz.prog 51 [srcV Ar Az Al As cr cz cl cs a, .int .i64 zone] w' (fun v O => v = .tuple #[.slice none 0 0, .slice none 0 0, .int .i64 e] ∧ O = [])) (hne : e ≠ 0) :
  Does Tryz.prog 20 [srcV Ar Az Al As cr cz cl cs a, .int .i64 zone] w (fun v O => v = .tuple #[.agg #[.string ByteArray.empty, .int .i64 0, .string ByteArray.empty, .int .i64 0, .int .i64 0, .int .i64 0, .int .i64 0, .int .i64 0, .int .i64 0, .int .i64 0, .int .i64 0, .int .i64 0, .int .i64 0, .int .i64 0], .int .i64 e] ∧ O = []) := by
 have hb : (!decide (e = 0)) = true := by rw [decide_eq_false hne]; rfl
 refine Does_of_W Tryz.func20 rfl rfl rfl rfl ?_
 repeat (first | (apply RL_pu; rfl; exact PuFtO0) | (apply RD_Q; rfl; rfl; decide +kernel; rfl; rfl; exact QyFtO0) | refine walk1 ?_ | (refine jg ?_; (try intro F); (first | (refine callE h ?_) | (refine bx ?_; intro bk) | (refine stA ?_)); first | refine ⟨_, EndsA, QFFtO0, ?_⟩ | refine fin ?_) | (refine jn ?_; (try intro F); (first | (refine bx ?_; intro bk) | (refine stA ?_) | (apply Stp_pu; first | exact PuFtO0 | exact PuA)); first | refine ⟨_, EndsA, QFFtO0, ?_⟩ | refine fin ?_) | (apply RD_W; rfl; intro bk))
 exact rtC
theorem year_err (Ar Az Al As : Option Addr) (cr cz cl cs : Nat) (a : DSource) (zone e : Int) (w : World) (h : ∀ w', Bel w.heap.size w w' → Does Tryz.prog 51 [srcV Ar Az Al As cr cz cl cs a, .int .i64 zone] w' (fun v O => v = .tuple #[.slice none 0 0, .slice none 0 0, .int .i64 e] ∧ O = [])) (hne : e ≠ 0) :
  Does Tryz.prog 16 [srcV Ar Az Al As cr cz cl cs a, .int .i64 zone] w (fun v O => v = .tuple #[.int .i64 0, .int .i64 e] ∧ O = []) := by
 have hb : (!decide (e = 0)) = true := by rw [decide_eq_false hne]; rfl
 refine Does_of_W Tryz.func16 rfl rfl rfl rfl ?_
 repeat (first | (apply RL_pu; rfl; exact PuFtO0) | (refine js ?_; (first | (refine callE h ?_) | (refine bx ?_; intro bk))) | refine walk1 ?_)
 exact rtB
structure YrG where
 k : Nat
 y : Int
theorem rulesE_len {a : DSource} (h : a.rules.length ≤ 1000000) (l : List DEra) : (rulesE a l).length ≤ 1000000 := by
 unfold rulesE
 split
 ·exact Nat.le_trans (List.length_filter_le _ _) h
 ·exact Nat.zero_le _
theorem PuFtO2 {G : Prop} (h : G := by (first | (apply Pu_indexAddrH; rfl; rfl; omega; omega; (intro w' _ hO; exact (row_cell (hO.of (A := .row (.slice B R.length d) 27 11 R.length (R.flatMap DRule.enc)) (by repeat' constructor)) hg1).1)) | (apply Pu_loadRN; rfl; (focus repeat' constructor); exact hgn; rfl) | (apply Pu_maxK; rfl; rfl; first | exact m1 | exact m2) | (apply Pu_neqB'; rfl; rfl; exact b2))) : G := h
theorem year_ok (Ar Az Al As : Option Addr) (cr cz cl cs : Nat) (a : DSource) (k : Nat) (z : DZone) (w : World) (h : AccOk w Ar Az Al As cr cz cl cs a) (hf : accD a = none) (hk : a.zones[k]? = some z) (hne : z.eras ≠ [])
  (hb : -1000000000 ≤ yearD a z.eras ∧ yearD a z.eras ≤ 1000000000) :
  Does Tryz.prog 16 [srcV Ar Az Al As cr cz cl cs a, .int .i64 k] w (fun v O => v = .tuple #[.int .i64 (yearD a z.eras), .int .i64 0] ∧ O = []) := by
 obtain ⟨hna, cs1, ⟨A, c, hE, rfl⟩, hca⟩ := h.A.z k _ hk
 have hfi := fun w' (hw : Bel w.heap.size w w') => find_ok Ar Az Al As cr cz cl cs a k z A c w' (h.up hw) hf hk hna (hca.up hw (Nat.le_refl _)) (hE.up hw) hne
 have hl : 0 < z.eras.length := List.length_pos_iff.2 hne
 have hel := (h.S.zs z (List.mem_of_getElem? hk)).2.1
 have hRl := rulesE_len h.S.nr z.eras
 have hy0 : yr0 z.eras = if 1 < z.eras.length then (z.eras.getD (z.eras.length - 2) dE0).til.year else 1849 := rfl
 unfold yearD at *
 generalize rulesE a z.eras = R at *
 clear h hk hca
 obtain ⟨y0, hyy⟩ : ∃ y0, yr0 z.eras = y0 := ⟨_, rfl⟩
 rw [hyy] at hy0 hb ⊢
 obtain ⟨res, hres⟩ : ∃ res, yrR R y0 = res := ⟨_, rfl⟩
 rw [hres] at hb ⊢
 refine Does_of_W Tryz.func16 rfl rfl rfl rfl ?_
 by_cases h1 : 1 < z.eras.length
 ·have b1 : decide ((1 : Int) < z.eras.length) = true := decide_eq_true (by omega)
  rw [if_pos h1] at hy0
  obtain ⟨e, he⟩ : ∃ e, z.eras[z.eras.length - 2]? = some e := ⟨_, List.getElem?_eq_getElem (by omega)⟩
  rw [List.getD_eq_getElem?_getD, he] at hy0
  simp only [Option.getD_some] at hy0
  obtain ⟨hna2, hca2⟩ := hE.rd _ _ he
  rw [show z.eras.length - 2 = ((z.eras.length : Int) - 2).toNat by omega] at hca2
  have hu : w.cell? ((((adr A).add (((z.eras.length : Int) - 2).toNat * 13)).add 5).add 1) = some (.int .i64 y0) := by
   rw [add_of_add]
   exact hca2 6 _ (by rw [hy0]; rfl)
  clear hca2 he hE hy0
  repeat (first | (apply RL_pu; rfl; (first | (apply Pu_gtrB; rfl; rfl; exact b1) | (apply Pu_indexAddr; rfl; rfl; omega; omega; exact hna2) | (apply Pu_loadO1; rfl; exact hu))) | (refine js ?_; (first | (apply Stp_call (h := fun w' hw _ => hfi w' hw); rfl; rintro v O' ⟨B, d, rfl, rfl⟩) | (refine bx ?_; intro bk))) | refine walk1 ?_)
  refine W_loopF [(7, .slice B R.length d), (33, .slice B R.length d), (34, .int .i64 R.length)] [.row (.slice B R.length d) 27 11 R.length (R.flatMap DRule.enc)] (fun g : YrG => [(35, .int .i64 g.k), (9, .int .i64 g.y)]) (fun _ => []) (fun g => g.k ≤ R.length ∧ yrR (R.drop g.k) g.y = res) (fun g => R.length - g.k) ⟨0, y0⟩ SFA SOA ⟨Nat.zero_le _, hres⟩ ?_
  clear hres
  rintro ⟨k, y⟩ ⟨hkl, hi⟩
  dsimp only at hkl hi ⊢
  repeat (first | (refine js ?_; (refine bx ?_; intro bk)) | refine walk ?_)
  refine W_cond rfl (fun hc => ?_) (fun hc => ?_)
  ·simp only [decide_eq_true_eq, Int.ofNat_lt] at hc
   rw [drop_cons hc, yrR] at hi
   have hg1 := flat_get DRule.len R k _ 0 _ (List.getElem?_eq_getElem hc) rfl
   have hgn : ∀ j v, (DRule.enc R[k])[j]? = some v → (R.flatMap DRule.enc)[k * 11 + j]? = some v := fun j v hj => flat_get DRule.len R k _ j v (List.getElem?_eq_getElem hc) hj
   generalize R[k] = r at *
   obtain ⟨nm, fr, to, mo, ⟨dk, dw, dd⟩, ⟨cs', cb⟩, sv, le⟩ := r
   simp only [DRule.enc] at hgn hg1
   dsimp only at hi
   have m1 : (if y < fr then fr else y) = max y fr := by split <;> omega
   have m2 : (if max y fr < to then to else max y fr) = max (max y fr) to := by split <;> omega
   by_cases hto : to = 1048576
   ·have b2 : (!decide (to = 1048576)) = false := by rw [decide_eq_true hto]; rfl
    rw [if_pos hto] at hi
    repeat (first | (apply RL_pu; rfl; exact PuFtO2) | (refine js ?_; (refine bx ?_; intro bk)) | refine walk1 ?_)
    exact ⟨⟨k + 1, max y fr⟩, OA, ⟨OA, hi⟩, SFA, SOA⟩
   ·have b2 : (!decide (to = 1048576)) = true := by rw [decide_eq_false hto]; rfl
    rw [if_neg hto] at hi
    repeat (first | (apply RL_pu; rfl; exact PuFtO2) | (refine js ?_; (refine bx ?_; intro bk)) | refine walk1 ?_)
    exact ⟨⟨k + 1, max (max y fr) to⟩, OA, ⟨OA, hi⟩, SFA, SOA⟩
  ·simp only [decide_eq_false_iff_not, Int.ofNat_lt] at hc
   rw [List.drop_eq_nil_of_le (by omega), yrR] at hi
   subst hi
   repeat (first | (refine js ?_; (refine bx ?_; intro bk)) | refine walk ?_)
   exact rtB
 ·have b1 : decide ((1 : Int) < z.eras.length) = false := decide_eq_false (by omega)
  rw [if_neg h1] at hy0
  subst hy0
  repeat (first | (apply RL_pu; rfl; (apply Pu_gtrB; rfl; rfl; exact b1)) | (refine js ?_; (first | (apply Stp_call (h := fun w' hw _ => hfi w' hw); rfl; rintro v O' ⟨B, d, rfl, rfl⟩) | (refine bx ?_; intro bk))) | refine walk1 ?_)
  refine W_loopF [(7, .slice B R.length d), (33, .slice B R.length d), (34, .int .i64 R.length)] [.row (.slice B R.length d) 27 11 R.length (R.flatMap DRule.enc)] (fun g : YrG => [(35, .int .i64 g.k), (9, .int .i64 g.y)]) (fun _ => []) (fun g => g.k ≤ R.length ∧ yrR (R.drop g.k) g.y = res) (fun g => R.length - g.k) ⟨0, 1849⟩ SFA SOA ⟨Nat.zero_le _, hres⟩ ?_
  clear hres
  rintro ⟨k, y⟩ ⟨hkl, hi⟩
  dsimp only at hkl hi ⊢
  repeat (first | (refine js ?_; (refine bx ?_; intro bk)) | refine walk ?_)
  refine W_cond rfl (fun hc => ?_) (fun hc => ?_)
  ·simp only [decide_eq_true_eq, Int.ofNat_lt] at hc
   rw [drop_cons hc, yrR] at hi
   have hg1 := flat_get DRule.len R k _ 0 _ (List.getElem?_eq_getElem hc) rfl
   have hgn : ∀ j v, (DRule.enc R[k])[j]? = some v → (R.flatMap DRule.enc)[k * 11 + j]? = some v := fun j v hj => flat_get DRule.len R k _ j v (List.getElem?_eq_getElem hc) hj
   generalize R[k] = r at *
   obtain ⟨nm, fr, to, mo, ⟨dk, dw, dd⟩, ⟨cs', cb⟩, sv, le⟩ := r
   simp only [DRule.enc] at hgn hg1
   dsimp only at hi
   have m1 : (if y < fr then fr else y) = max y fr := by split <;> omega
   have m2 : (if max y fr < to then to else max y fr) = max (max y fr) to := by split <;> omega
   by_cases hto : to = 1048576
   ·have b2 : (!decide (to = 1048576)) = false := by rw [decide_eq_true hto]; rfl
    rw [if_pos hto] at hi
    repeat (first | (apply RL_pu; rfl; exact PuFtO2) | (refine js ?_; (refine bx ?_; intro bk)) | refine walk1 ?_)
    exact ⟨⟨k + 1, max y fr⟩, OA, ⟨OA, hi⟩, SFA, SOA⟩
   ·have b2 : (!decide (to = 1048576)) = true := by rw [decide_eq_false hto]; rfl
    rw [if_neg hto] at hi
    repeat (first | (apply RL_pu; rfl; exact PuFtO2) | (refine js ?_; (refine bx ?_; intro bk)) | refine walk1 ?_)
    exact ⟨⟨k + 1, max (max y fr) to⟩, OA, ⟨OA, hi⟩, SFA, SOA⟩
  ·simp only [decide_eq_false_iff_not, Int.ofNat_lt] at hc
   rw [List.drop_eq_nil_of_le (by omega), yrR] at hi
   subst hi
   repeat (first | (refine js ?_; (refine bx ?_; intro bk)) | refine walk ?_)
   exact rtB
def ruS (sv : Int) : DRule := ⟨ByteArray.empty, 0, 0, 0, ⟨0, 0, 0⟩, ⟨0, 0⟩, sv, ByteArray.empty⟩
theorem PuFtO4 {G : Prop} (h : G := by (first | (apply Pu_indexAddr; rfl; rfl; omega; omega; exact hna2) | (apply Pu_loadON; rfl; exact hca2; rfl) | (apply Pu_neqB'; rfl; rfl; exact b3))) : G := h
theorem QyFtO4 {G : Prop} (h : G := by first | (apply Qy_y; rfl; exact PuFtO4) | exact QyA) : G := h
theorem QFFtO4 {G : Prop} (h : G := by repeat (first | exact QF.nil | (apply QF.mk; rfl; rfl; decide +kernel; exact QyFtO4))) : G := h
theorem of_one (Ar Az Al As : Option Addr) (cr cz cl cs : Nat) (a : DSource) (k : Nat) (z : DZone) (e : DEra) (w : World) (h : AccOk w Ar Az Al As cr cz cl cs a) (hf : accD a = none) (hk : a.zones[k]? = some z) (he : z.eras[z.eras.length - 1]? = some e)
  (hkd : e.kind ≠ 2) (hE1 : FtE e) (hsv : -1000000 ≤ e.save ∧ e.save ≤ 1000000) :
  Does Tryz.prog 20 [srcV Ar Az Al As cr cz cl cs a, .int .i64 k] w (fun v O => v = .tuple #[.agg (alwaysF e e.save ByteArray.empty).enc.toArray, .int .i64 0] ∧ O = []) := by
 obtain ⟨hna, cs1, ⟨A, c, hE, rfl⟩, hca⟩ := h.A.z k _ hk
 have hl : 0 < z.eras.length := by have := (List.getElem?_eq_some_iff.1 he).1; omega
 have hfi := fun w' (hw : Bel w.heap.size w w') => find_ok Ar Az Al As cr cz cl cs a k z A c w' (h.up hw) hf hk hna (hca.up hw (Nat.le_refl _)) (hE.up hw) (List.length_pos_iff.1 hl)
 have hal := fun w' (hw : Bel w.heap.size w w') => ftAlways_spec e (ruS e.save) w' (h.L.up hw) hE1 ⟨Nat.zero_le _, hsv⟩
 have hel := (h.S.zs z (List.mem_of_getElem? hk)).2.1
 have hRl := rulesE_len h.S.nr z.eras
 obtain ⟨hna2, hca2⟩ := hE.rd _ _ he
 rw [show z.eras.length - 1 = ((z.eras.length : Int) - 1).toNat by omega] at hca2
 change ∀ w', Bel w.heap.size w w' → Does _ _ _ w' (fun v O => v = .agg (alwaysF e e.save ByteArray.empty).enc.toArray ∧ O = []) at hal
 generalize alwaysF e e.save ByteArray.empty = p at *
 have b3 : (!decide (e.kind = 2)) = true := by rw [decide_eq_false hkd]; rfl
 generalize rulesE a z.eras = R at *
 clear h hf hk hca he hE hkd hE1 hsv
 obtain ⟨off, kd, esv, st, fm, ⟨ui, uy, um, ⟨ud1, ud2, ud3⟩, ⟨uc1, uc2⟩⟩⟩ := e
 obtain ⟨p1, p2, p3, p4, ⟨p5, p6, p7, p8, p9⟩, ⟨q1, q2, q3, q4, q5⟩⟩ := p
 change CellsAt w _ [.int .i64 off, .int .i64 kd, .int .i64 esv, .string st, .string fm, .bool ui, .int .i64 uy, .int .i64 um, .int .i64 ud1, .int .i64 ud2, .int .i64 ud3, .int .i64 uc1, .int .i64 uc2] at hca2
 change ∀ w', Bel w.heap.size w w' → Does _ _ [.agg #[.int .i64 off, .int .i64 kd, .int .i64 esv, .string st, .string fm, .bool ui, .int .i64 uy, .int .i64 um, .int .i64 ud1, .int .i64 ud2, .int .i64 ud3, .int .i64 uc1, .int .i64 uc2], .agg #[.string ByteArray.empty, .int .i64 0, .int .i64 0, .int .i64 0, .int .i64 0, .int .i64 0, .int .i64 0, .int .i64 0, .int .i64 0, .int .i64 esv, .string ByteArray.empty]] w' (fun v O => v = .agg #[.string p1, .int .i64 p2, .string p3, .int .i64 p4, .int .i64 p5, .int .i64 p6, .int .i64 p7, .int .i64 p8, .int .i64 p9, .int .i64 q1, .int .i64 q2, .int .i64 q3, .int .i64 q4, .int .i64 q5] ∧ O = []) at hal
 dsimp only at b3 ⊢
 refine Does_of_W Tryz.func20 rfl rfl rfl rfl ?_
 repeat (first | (apply RL_pu; rfl; exact PuFtO4) | (apply RD_Q; rfl; rfl; decide +kernel; rfl; rfl; exact QyFtO4) | refine walk1 ?_ | (refine jg ?_; (try intro F); (first | (apply Stp_call (h := fun w' hw _ => hfi w' hw); rfl; rintro v O' ⟨B, d, rfl, rfl⟩) | (refine callE hal ?_) | (refine bx ?_; intro bk) | (refine stA ?_)); first | refine ⟨_, EndsA, QFFtO4, ?_⟩ | refine fin ?_) | (refine jn ?_; (try intro F); (first | (refine bx ?_; intro bk) | (refine stA ?_) | (apply Stp_pu; first | exact PuFtO4 | exact PuA)); first | refine ⟨_, EndsA, QFFtO4, ?_⟩ | refine fin ?_) | (apply RD_W; rfl; intro bk))
 exact rtC
structure OfG where
 k : Nat
 s : Option Nat
 e : Option Nat
theorem PuFtO5 {G : Prop} (h : G := by (first | (apply Pu_indexAddrH; rfl; rfl; omega; omega; (intro w' _ hO; exact (row_cell (hO.of (A := .row (.slice B R.length d) 27 11 R.length (R.flatMap DRule.enc)) (by repeat' constructor)) hg1).1)) | (apply Pu_loadRN; rfl; (focus repeat' constructor); exact hgn; rfl) | (apply Pu_neqB'; rfl; rfl; exact b2) | (apply Pu_eqlB; rfl; rfl; exact b4))) : G := h
theorem QyFtO5 {G : Prop} (h : G := by first | (apply Qy_y; rfl; exact PuFtO5) | exact QyA) : G := h
theorem QFFtO5 {G : Prop} (h : G := by repeat (first | exact QF.nil | (apply QF.mk; rfl; rfl; decide +kernel; exact QyFtO5))) : G := h
theorem PuFtO6 {G : Prop} (h : G := by (first | (apply Pu_indexAddrH; rfl; rfl; omega; omega; (intro w' _ hO; exact (row_cell (hO.of (A := .row (.slice B R.length d) 27 11 R.length (R.flatMap DRule.enc)) (by repeat' constructor)) hg1).1)) | (apply Pu_loadRN; rfl; (focus repeat' constructor); exact hgn; rfl) | (apply Pu_neqB'; rfl; rfl; exact b2))) : G := h
theorem QyFtO6 {G : Prop} (h : G := by first | (apply Qy_y; rfl; exact PuFtO6) | exact QyA) : G := h
theorem QFFtO6 {G : Prop} (h : G := by repeat (first | exact QF.nil | (apply QF.mk; rfl; rfl; decide +kernel; exact QyFtO6))) : G := h
theorem PuFtO7 {G : Prop} (h : G := by (first | (apply Pu_neqPtr; exact ⟨_, Tryz.underlying141⟩; rfl) | (apply Pu_nilCheck; rfl) | (apply Pu_loadRN; rfl; (focus repeat' constructor); exact hgi; exact DRule.len r) | (apply Pu_loadRN; rfl; (focus repeat' constructor); exact hgj; exact DRule.len q))) : G := h
theorem QyFtO7 {G : Prop} (h : G := by first | (apply Qy_y; rfl; exact PuFtO7) | exact QyA) : G := h
theorem QFFtO7 {G : Prop} (h : G := by repeat (first | exact QF.nil | (apply QF.mk; rfl; rfl; decide +kernel; exact QyFtO7))) : G := h
theorem of_two (Ar Az Al As : Option Addr) (cr cz cl cs : Nat) (a : DSource) (k : Nat) (z : DZone) (e : DEra) (i j : Nat) (r q : DRule) (w : World) (h : AccOk w Ar Az Al As cr cz cl cs a) (hF : FtG w) (hf : accD a = none) (hk : a.zones[k]? = some z) (he : z.eras[z.eras.length - 1]? = some e)
  (hkd : e.kind = 2) (hE1 : FtE e) (hse : seF (rulesE a z.eras) 0 (none, none) = (some i, some j)) (hri : (rulesE a z.eras)[i]? = some r) (hrj : (rulesE a z.eras)[j]? = some q) (hr : FtRu r) (hq : FtRu q) :
  Does Tryz.prog 20 [srcV Ar Az Al As cr cz cl cs a, .int .i64 k] w (fun v O => v = .tuple #[.agg (twiceF e r q).enc.toArray, .int .i64 0] ∧ O = []) := by
 obtain ⟨hna, cs1, ⟨A, c, hE, rfl⟩, hca⟩ := h.A.z k _ hk
 have hl : 0 < z.eras.length := by have := (List.getElem?_eq_some_iff.1 he).1; omega
 have hfi := fun w' (hw : Bel w.heap.size w w') => find_ok Ar Az Al As cr cz cl cs a k z A c w' (h.up hw) hf hk hna (hca.up hw (Nat.le_refl _)) (hE.up hw) (List.length_pos_iff.1 hl)
 have htw := fun w' (hw : Bel w.heap.size w w') => ftTwice_spec e r q w' (h.L.up hw) (h.G.up hw) (hF.up hw) hE1 hr hq
 have hel := (h.S.zs z (List.mem_of_getElem? hk)).2.1
 have hRl := rulesE_len h.S.nr z.eras
 obtain ⟨hna2, hca2⟩ := hE.rd _ _ he
 rw [show z.eras.length - 1 = ((z.eras.length : Int) - 1).toNat by omega] at hca2
 generalize twiceF e r q = p at *
 have b3 : (!decide (e.kind = 2)) = false := by rw [decide_eq_true hkd]; rfl
 generalize rulesE a z.eras = R at *
 have hgi : ∀ m v, (DRule.enc r)[m]? = some v → (R.flatMap DRule.enc)[i * 11 + m]? = some v := fun m v hm => flat_get DRule.len R i _ m v hri hm
 have hgj : ∀ m v, (DRule.enc q)[m]? = some v → (R.flatMap DRule.enc)[j * 11 + m]? = some v := fun m v hm => flat_get DRule.len R j _ m v hrj hm
 clear h hf hk hca he hE hkd hE1 hri hrj hr hq hF
 obtain ⟨off, kd, esv, st, fm, ⟨ui, uy, um, ⟨ud1, ud2, ud3⟩, ⟨uc1, uc2⟩⟩⟩ := e
 obtain ⟨p1, p2, p3, p4, ⟨p5, p6, p7, p8, p9⟩, ⟨q1, q2, q3, q4, q5⟩⟩ := p
 change CellsAt w _ [.int .i64 off, .int .i64 kd, .int .i64 esv, .string st, .string fm, .bool ui, .int .i64 uy, .int .i64 um, .int .i64 ud1, .int .i64 ud2, .int .i64 ud3, .int .i64 uc1, .int .i64 uc2] at hca2
 change ∀ w', Bel w.heap.size w w' → Does _ _ [.agg #[.int .i64 off, .int .i64 kd, .int .i64 esv, .string st, .string fm, .bool ui, .int .i64 uy, .int .i64 um, .int .i64 ud1, .int .i64 ud2, .int .i64 ud3, .int .i64 uc1, .int .i64 uc2], .agg r.enc.toArray, .agg q.enc.toArray] w' (fun v O => v = .agg #[.string p1, .int .i64 p2, .string p3, .int .i64 p4, .int .i64 p5, .int .i64 p6, .int .i64 p7, .int .i64 p8, .int .i64 p9, .int .i64 q1, .int .i64 q2, .int .i64 q3, .int .i64 q4, .int .i64 q5] ∧ O = []) at htw
 dsimp only at b3 ⊢
 refine Does_of_W Tryz.func20 rfl rfl rfl rfl ?_
 repeat (first | (apply RL_pu; rfl; exact PuFtO4) | (apply RD_Q; rfl; rfl; decide +kernel; rfl; rfl; exact QyFtO4) | refine walk1 ?_ | (refine jg ?_; (try intro F); (first | (apply Stp_call (h := fun w' hw _ => hfi w' hw); rfl; rintro v O' ⟨B, d, rfl, rfl⟩) | (refine bx ?_; intro bk) | (refine stA ?_)); first | refine ⟨_, EndsA, QFFtO4, ?_⟩ | refine fin ?_) | (refine jn ?_; (try intro F); (first | (refine bx ?_; intro bk) | (refine stA ?_) | (apply Stp_pu; first | exact PuFtO4 | exact PuA)); first | refine ⟨_, EndsA, QFFtO4, ?_⟩ | refine fin ?_) | (apply RD_W; rfl; intro bk))
 rename_i b2 b4
 generalize bk = b9
 refine W_loopF [(4, .pointer (some ⟨b4, 0, none⟩)), (7, .slice B R.length d), (9, .pointer (some ⟨b9, 0, none⟩)), (41, .slice B R.length d), (42, .int .i64 R.length)] [.row (.slice B R.length d) 27 11 R.length (R.flatMap DRule.enc), .blk b9 [.int .i64 off, .int .i64 kd, .int .i64 esv, .string st, .string fm, .bool ui, .int .i64 uy, .int .i64 um, .int .i64 ud1, .int .i64 ud2, .int .i64 ud3, .int .i64 uc1, .int .i64 uc2] 55, .blk b4 [.string ByteArray.empty, .int .i64 0, .string ByteArray.empty, .int .i64 0, .int .i64 0, .int .i64 0, .int .i64 0, .int .i64 0, .int .i64 0, .int .i64 0, .int .i64 0, .int .i64 0, .int .i64 0, .int .i64 0] 70]
  (fun g : OfG => [(43, .int .i64 g.k), (10, .pointer (g.s.map fun i => (adr B).add (i * 11))), (11, .pointer (g.e.map fun i => (adr B).add (i * 11)))]) (fun _ => []) (fun g => g.k ≤ R.length ∧ seF (R.drop g.k) g.k (g.s, g.e) = (some i, some j)) (fun g => R.length - g.k) ⟨0, none, none⟩ SFA SOA ⟨Nat.zero_le _, hse⟩ ?_
 clear hse
 rintro ⟨k, s, t⟩ ⟨hkl, hi⟩
 dsimp only at hkl hi ⊢
 repeat (first | refine walk ?_ | (refine jn ?_; (try intro F); (first | (refine bx ?_; intro bk) | (refine stA ?_) | (apply Stp_pu; exact PuA)); refine fin ?_) | (apply RD_W; rfl; intro bk))
 refine W_cond rfl (fun hc => ?_) (fun hc => ?_)
 ·simp only [decide_eq_true_eq, Int.ofNat_lt] at hc
  rw [drop_cons hc, seF] at hi
  have hg1 := flat_get DRule.len R k _ 0 _ (List.getElem?_eq_getElem hc) rfl
  have hgn : ∀ j v, (DRule.enc R[k])[j]? = some v → (R.flatMap DRule.enc)[k * 11 + j]? = some v := fun j v hj => flat_get DRule.len R k _ j v (List.getElem?_eq_getElem hc) hj
  generalize R[k] = r1 at *
  obtain ⟨nm, fr, to, mo, ⟨dk, dw, dd⟩, ⟨cs', cb⟩, sv, le⟩ := r1
  simp only [DRule.enc] at hgn hg1
  dsimp only at hi
  by_cases hto : to = 1048576
  ·have b2 : (!decide (to = 1048576)) = false := by rw [decide_eq_true hto]; rfl
   rw [if_pos hto] at hi
   by_cases hsv : sv = 0
   ·have b4 : decide (sv = 0) = true := decide_eq_true hsv
    rw [if_pos hsv] at hi
    repeat (first | (apply RL_pu; rfl; exact PuFtO5) | (apply RD_Q; rfl; rfl; decide +kernel; rfl; rfl; exact QyFtO5) | refine walk1 ?_ | (refine jn ?_; (try intro F); (first | (refine bx ?_; intro bk) | (refine stA ?_) | (apply Stp_pu; first | exact PuFtO5 | exact PuA)); first | refine ⟨_, EndsA, QFFtO5, ?_⟩ | refine fin ?_) | (apply RD_W; rfl; intro bk))
    exact ⟨⟨k + 1, s, some k⟩, OA, ⟨OA, hi⟩, SFA, SOA⟩
   ·have b4 : decide (sv = 0) = false := decide_eq_false hsv
    rw [if_neg hsv] at hi
    repeat (first | (apply RL_pu; rfl; exact PuFtO5) | (apply RD_Q; rfl; rfl; decide +kernel; rfl; rfl; exact QyFtO5) | refine walk1 ?_ | (refine jn ?_; (try intro F); (first | (refine bx ?_; intro bk) | (refine stA ?_) | (apply Stp_pu; first | exact PuFtO5 | exact PuA)); first | refine ⟨_, EndsA, QFFtO5, ?_⟩ | refine fin ?_) | (apply RD_W; rfl; intro bk))
    exact ⟨⟨k + 1, some k, t⟩, OA, ⟨OA, hi⟩, SFA, SOA⟩
  ·have b2 : (!decide (to = 1048576)) = true := by rw [decide_eq_false hto]; rfl
   rw [if_neg hto] at hi
   repeat (first | (apply RL_pu; rfl; exact PuFtO6) | (apply RD_Q; rfl; rfl; decide +kernel; rfl; rfl; exact QyFtO6) | refine walk1 ?_ | (refine jn ?_; (try intro F); (first | (refine bx ?_; intro bk) | (refine stA ?_) | (apply Stp_pu; first | exact PuFtO6 | exact PuA)); first | refine ⟨_, EndsA, QFFtO6, ?_⟩ | refine fin ?_) | (apply RD_W; rfl; intro bk))
   exact ⟨⟨k + 1, s, t⟩, OA, ⟨OA, hi⟩, SFA, SOA⟩
 ·simp only [decide_eq_false_iff_not, Int.ofNat_lt] at hc
  rw [List.drop_eq_nil_of_le (by omega), seF] at hi
  obtain ⟨rfl, rfl⟩ := Prod.mk.inj hi
  simp only [Option.map_some]
  repeat (first | (apply RL_pu; rfl; exact PuFtO7) | (apply RD_Q; rfl; rfl; decide +kernel; rfl; rfl; exact QyFtO7) | refine walk1 ?_ | (refine jg ?_; (try intro F); (first | (refine callE htw ?_) | (refine bx ?_; intro bk) | (refine stA ?_)); first | refine ⟨_, EndsA, QFFtO7, ?_⟩ | refine fin ?_) | (refine jn ?_; (try intro F); (first | (refine bx ?_; intro bk) | (refine stA ?_) | (apply Stp_pu; first | exact PuFtO7 | exact PuA)); first | refine ⟨_, EndsA, QFFtO7, ?_⟩ | refine fin ?_) | (apply RD_W; rfl; intro bk))
  exact rtC
end Go.Proofs.YtonjepladadmhaaGreatDoor
namespace Go.Wk
open Go Go.RowKit
theorem Pu_eqEB {P : Program} {n : Nat} {wr : World} {fr : Fr} {O : List It} {ty t t' : TypeId} {α : Type} [DecidableEq α] {enc : α → List Value} {x y : Operand} {i j : α} {b : Bool} [hE : EqE P t α enc] (hx : ev fr x = some (.agg (enc i).toArray)) (hy : ev fr y = some (.agg (enc j).toArray)) (h : decide (i = j) = b) :
  Pu P n wr fr O (.binOp .eql t x y t') ty (.bool b) := h ▸ Pu_eqlE hx hy
theorem Pu_neEB {P : Program} {n : Nat} {wr : World} {fr : Fr} {O : List It} {ty t t' : TypeId} {α : Type} [DecidableEq α] {enc : α → List Value} {x y : Operand} {i j : α} {b : Bool} [hE : EqE P t α enc] (hx : ev fr x = some (.agg (enc i).toArray)) (hy : ev fr y = some (.agg (enc j).toArray)) (h : (!decide (i = j)) = b) :
  Pu P n wr fr O (.binOp .neq t x y t') ty (.bool b) := h ▸ Pu_neqE hx hy
end Go.Wk
namespace Go.Proofs.YtonjepladadmhaaGreatDoor
open Go Go.RowKit Go.Wk
instance : EqE Tryz.prog 29 DDate DDate.enc where
 h r s w := by
  unfold DDate.enc
  simp [go_sem, toList_inj]
  rcases r with ⟨_, _, _, _, _⟩
  rcases s with ⟨_, _, _, _, _⟩
  simp only [ok_ite, Result.ok.injEq, and_true]
  rw [Bool.eq_iff_iff]
  simp [and_assoc]
 g := by kernel_rfl
instance : EqE Tryz.prog 70 DPosix DPosix.enc where
 h r s w := by
  unfold DPosix.enc
  simp [go_sem, toList_inj]
  rcases r with ⟨_, _, _, _, ⟨_, _, _, _, _⟩, ⟨_, _, _, _, _⟩⟩
  rcases s with ⟨_, _, _, _, ⟨_, _, _, _, _⟩, ⟨_, _, _, _, _⟩⟩
  simp only [ok_ite, Result.ok.injEq, and_true]
  rw [Bool.eq_iff_iff]
  simp [and_assoc]
 g := by kernel_rfl
end Go.Proofs.YtonjepladadmhaaGreatDoor
namespace Go.Wk
open Go Go.RowKit
section
variable {P : Program} {n : Nat} {wr : World} {fr : Fr} {O : List It} {ty : TypeId} {pos : String} {af : Array Edge} {dst : Option Tmp} {g : Option (Nat × Bool)} {Kp : Value → List It → Prop}
theorem Pu_indexAddrK {t e sz bytes b s j : Nat} {x ix : Operand} {len cap : Nat} {kk : IntKind} {i : Int} [hE : ElemT P t e sz bytes] (hx : ev fr x = some (.slice (some ⟨b, s, none⟩) len cap)) (hi : ev fr ix = some (.int kk i))
  (h0 : 0 ≤ i) (h1 : i < len) (hj : s + i.toNat * sz = j) : Pu P n wr fr O (.indexAddr t x ix) ty (.pointer (some ⟨b, j, none⟩)) := by
 have := Pu_indexAddr (P := P) (n := n) (wr := wr) (O := O) (ty := ty) (t := t) (e := e) (sz := sz) (bytes := bytes) hx hi h0 h1 (by simp)
 have he : (adr (some ⟨b, s, none⟩)).add (i.toNat * sz) = ⟨b, j, none⟩ := by
  show (⟨b, s, none⟩ : Addr).add (i.toNat * sz) = _
  rw [add_mk, hj]
 rwa [he] at this
end
theorem RdSl.pre {α : Type} {w : World} {A : Option Addr} {c sz : Nat} {enc : α → List Value} {x y : List α} (h : RdSl w A c enc sz (x ++ y)) : RdSl w A c enc sz x :=
 ⟨by have := h.le; rw [List.length_append] at this; omega, h.cap, fun k v hv => h.rd k v (by
  have hk := (List.getElem?_eq_some_iff.1 hv).1
  rw [List.getElem?_append_left hk]; exact hv)⟩
end Go.Wk
