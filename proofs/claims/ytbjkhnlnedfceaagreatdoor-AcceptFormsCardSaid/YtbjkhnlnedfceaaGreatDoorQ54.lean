/- Contract: analemmalaw25.AcceptForms. -/
import Derived.Test.YtbjkhnlnedfceaaGreatDoorQ47
import Derived.Test.YtbjkhnlnedfceaaGreatDoorQ36
import Derived.Test.YtbjkhnlnedfceaaGreatDoorQ39
import Derived.Test.YtbjkhnlnedfceaaGreatDoorQ45
set_option maxHeartbeats 4000000
set_option linter.unusedVariables false
set_option linter.unusedSimpArgs false
namespace Go.Proofs.YtbjkhnlnedfceaaGreatDoor
open Go Go.RowKit Go.Wk
attribute [local irreducible] W RL Does thenQ blockQ retQ Calls Pu Stp RD Qy Ay DoesIn made25
theorem ze_at25 {Zs : List ZE} {zs : List DZone} (h : Zs.map ZE.z = zs) {j : Nat} {z : DZone} (hg : zs[j]? = some z) : ∃ q, Zs[j]? = some q ∧ q.z = z := by
 subst h
 rw [List.getElem?_map] at hg
 cases hq : Zs[j]? with
 | none => rw [hq] at hg; cases hg
 | some q =>
  rw [hq] at hg
  exact ⟨q, rfl, Option.some.inj hg⟩
theorem foR_spec (r : DRule) (w : World) : Does Tryz.prog 10 [.agg (DRule.enc r).toArray] w (fun v O => v = .bool (decide (r.save < 0)) ∧ O = []) := by
 obtain ⟨nm, fr, to, mo, ⟨dk, dw, dd⟩, ⟨cs, cb⟩, sv, le⟩ := r
 show Does _ _ [.agg #[.string nm, .int .i64 fr, .int .i64 to, .int .i64 mo, .int .i64 dk, .int .i64 dw, .int .i64 dd, .int .i64 cs, .int .i64 cb, .int .i64 sv, .string le]] w _
 refine Does_of_W Tryz.func10 rfl rfl rfl rfl ?_
 repeat' (first | (refine js ?_; (refine bx ?_; intro bk)) | refine walk ?_ | (refine W_cond rfl (fun hc => ?_) (fun hc => ?_)))
 all_goals exact clo1
theorem foE_spec (e : DEra) (w : World) : Does Tryz.prog 12 [.agg (DEra.enc e).toArray] w (fun v O => v = .bool (numE e) ∧ O = []) := by
 obtain ⟨of, kd, sv, st, fm, ⟨ti, ty, tm, ⟨dk, dw, dd⟩, ⟨cs, cb⟩⟩⟩ := e
 show Does _ _ [.agg #[.int .i64 of, .int .i64 kd, .int .i64 sv, .string st, .string fm, .bool ti, .int .i64 ty, .int .i64 tm, .int .i64 dk, .int .i64 dw, .int .i64 dd, .int .i64 cs, .int .i64 cb]] w _
 refine Does_of_W Tryz.func12 rfl rfl rfl rfl ?_
 repeat (first | (refine js ?_; (refine bx ?_; intro bk)) | refine walk ?_)
 exact rtA
theorem numZ_step {zs : List DZone} {j : Nat} (h : j < zs.length) : numZ (zs.take (j + 1)) = (numZ (zs.take j) || zs[j].eras.any numE) := by
 unfold numZ
 rw [List.take_add_one, List.any_append, List.getElem?_eq_getElem h]
 simp
theorem conR_spec (A : Option Addr) (c : Nat) (l : List DRule) (w : World) (hA : RdSl w A c DRule.enc 11 l) : Does Tryz.prog 9 [.slice A l.length c, .func (.func 10) #[] #[]] w (fun v O => v = .bool (negR l) ∧ O = []) :=
 containsFn_spec A c l 10 [] [] (fun r => decide (r.save < 0)) w hA fun r w2 _ => foR_spec r w2
theorem conE_spec (A : Option Addr) (c : Nat) (l : List DEra) (w : World) (hA : RdSl w A c DEra.enc 13 l) : Does Tryz.prog 11 [.slice A l.length c, .func (.func 12) #[] #[]] w (fun v O => v = .bool (l.any numE) ∧ O = []) :=
 containsEr_spec A c l 12 [] [] numE w hA fun r _ w2 _ => foE_spec r w2
theorem inD_out {a : DSource} {f : Int} (h : accD a = none) (hf : f < 1 ∨ 3 < f) : inD a f = some (⟨0, 0, 0⟩, 2) := by
 unfold inD varFault
 rw [h, if_pos hf]
 rfl
theorem inT0 (Ar Az Al As : Option Addr) (cr cz cl cs : Nat) (a : DSource) (f : Int) (w : World) (h : AccOk w Ar Az Al As cr cz cl cs a) (ha : accD a = none) (hf : f < 1 ∨ 3 < f) :
  Does Tryz.prog 15 [srcV Ar Az Al As cr cz cl cs a, .int .i64 f] w (fun v O => v = .tuple #[.agg #[.int .i64 0, .int .i64 0, .int .i64 0], .int .i64 2] ∧ O = []) := inT3 Ar Az Al As cr cz cl cs a f 0 0 0 2 w h (inD_out ha hf)
theorem srcSh_rd {w : World} {Ar Az Al : Option Addr} {cr cz cl bs : Nat} {Zs : List ZE} {S : Nat → Prop} {s : DSource} {x : ByteArray} (hz : Zs.map ZE.z = s.zones) (h1 : (rowR Ar cr s.rules).sat w) (h2 : (rowZ Az cz Zs).sat w) (h3 : (rowL Al cl s.links).sat w) (h4 : (It.blk bs [.string x] 9).sat w) (h5 : (It.fact S (ErasAt Zs)).sat w) :
  RdSource w Ar Az Al (some ⟨bs, 0, none⟩) cr cz cl 1 { s with shifts := [x] } := by
 have h := rowRd ZE.len h2
 have hl : s.zones.length = Zs.length := by rw [← hz, List.length_map]
 exact ⟨rowRd DRule.len h1, by show s.zones.length ≤ cz; rw [hl]; exact h.le, h.cap, hz ▸ zones_rd h (fact_at h5), rowRd DLink.len h3, litRd (l := [x]) strEnc.len (Nat.le_refl 1) (by decide) h4⟩
theorem PuForms250 {G : Prop} (h : G := by (first | (apply Pu_indexAddrH; rfl; rfl; omega; omega; (intro w' _ hO; exact row_some (hO.of (A := rowZ Z1 z1 Zs1) (by repeat' constructor)) (by omega))) | (apply Pu_loadRN; rfl; (focus repeat' constructor); exact hx1; rfl))) : G := h
theorem PuForms251 {G : Prop} (h : G := by (apply Pu_eqlEB (i := (⟨0, 0, 0⟩ : DPlace)) (j := (⟨0, 0, 0⟩ : DPlace)) (enc := DPlace.enc); rfl; rfl; exact decide_eq_true rfl)) : G := h
set_option maxHeartbeats 8000000 in
theorem acceptForms_spec (As Al : Option Addr) (cs c : Nat) (d : DDr) (w : World) (hL : LibW w) (hG : Glob w) (hS : RdSets w As cs d.sets) (hD : RdSl w Al c byEnc 1 d.L) (hr : ∀ x ∈ d.L, inR .u8 x) (hrs : ∀ l ∈ d.sets, ∀ x ∈ l, inR .u8 x) (hz : inR .u8 d.zones) (hl : inR .u8 d.links) :
  Does Tryz.prog 3 [dr25V As Al cs c d] w (fun v O => v = .bool true ∧ O = []) := by
 have hwk := fun w' (hw : Bel w.heap.size w w') => works25_spec w' (hL.up hw) (hG.up hw)
 have hmk := fun w' (hw : Bel w.heap.size w w') => (made25_spec As Al cs c d w' (hS.up hw) (hD.up hw) hr hrs hz hl).monoO fun _ _ h => newSrc_of h
 have q1 := made25_formsD d
 have q5 := made25_acc d
 have q4 : ∀ r ∈ (made25 d).rules, negR (made25 d).rules = false → numZ (made25 d).zones = false → formsD { made25 d with shifts := [r.name] } = [3] := fun r hr hn hu => shSrc_forms d hn hu r hr
 have q6 : ∀ r ∈ (made25 d).rules, negR (made25 d).rules = false → accD { made25 d with shifts := [r.name] } = none := fun r hr hn => shSrc_acc d hn r hr
 have hsm := made25_sml d
 have hzn := hsm.nz
 have hrn := hsm.nr
 generalize made25 d = s at *
 obtain ⟨ng, hng⟩ : ∃ b, negR s.rules = b := ⟨_, rfl⟩
 refine Does_of_W Tryz.func3 rfl rfl rfl rfl ?_
 repeat (first | (refine js ?_; (first | (apply Stp_call (h := fun w' hw _ => hmk w' hw); rfl; rintro v O' ⟨R1, r1, Z1, z1, L1, l1, H1, h1, Zs1, S1, rfl, hZ1, rfl⟩) | (refine callO (fun w' _ hO => conR_spec R1 r1 s.rules w' (rowRd DRule.len (hO.of (A := rowR R1 r1 _) (by repeat' constructor)))) ?_) | (refine bx ?_; intro bk))) | refine walk ?_)
 rw [hng]
 generalize bk = b3
 refine W_loopF [(3, .pointer (some ⟨b3, 0, none⟩)), (4, .bool ng), (19, .slice Z1 s.zones.length z1), (20, .int .i64 s.zones.length)] [.blk b3 [.slice R1 s.rules.length r1, .slice Z1 s.zones.length z1, .slice L1 s.links.length l1, .slice H1 s.shifts.length h1] 31, rowR R1 r1 s.rules, rowZ Z1 z1 Zs1, rowL L1 l1 s.links, rowS H1 h1 s.shifts, .fact S1 (ErasAt Zs1)]
  (fun k : Nat => [(21, .int .i64 k), (5, .bool (numZ (s.zones.take k)))]) (fun _ => []) (fun k => k ≤ s.zones.length) (fun k => s.zones.length - k) 0 SFA SOA (Nat.zero_le _) ?_
 intro k hk
 repeat (first | (refine js ?_; (refine bx ?_; intro bk)) | refine walk ?_)
 refine W_cond rfl (fun h => ?_) (fun h => ?_)
 ·have hk2 : k < s.zones.length := by simpa using h
  have hst := numZ_step hk2
  obtain ⟨q, hq, e⟩ := ze_at25 hZ1 (List.getElem?_eq_getElem hk2)
  have hm1 : q ∈ Zs1 := List.mem_of_getElem? hq
  have hjl : k < Zs1.length := (List.getElem?_eq_some_iff.1 hq).1
  have hx1 : ∀ j v, q.enc[j]? = some v → (Zs1.flatMap ZE.enc)[((k : Int)).toNat * 2 + j]? = some v := fun j v hj => flat_get ZE.len Zs1 k q j v hq hj
  generalize s.zones[k] = z at *
  subst e
  generalize numZ (s.zones.take k) = n0 at *
  cases n0 with
  | true =>
   rw [Bool.true_or] at hst
   repeat (first | (apply RL_pu; rfl; exact PuForms250) | (refine js ?_; (refine bx ?_; intro bk)) | refine walk1 ?_)
   exact ⟨k + 1, by omega, by omega, by rw [hst]; exact SFA, SOA⟩
  | false =>
   rw [Bool.false_or] at hst
   repeat (first | (apply RL_pu; rfl; exact PuForms250) | (refine js ?_; (first | (refine callO (fun w' _ hO => conE_spec q.A q.c q.z.eras w' (fact_at (S := S1) (p := ErasAt Zs1) (hO.of (by repeat' constructor)) q hm1)) ?_) | (refine bx ?_; intro bk))) | refine walk1 ?_)
   exact ⟨k + 1, by omega, by omega, by rw [hst]; exact SFA, SOA⟩
 have hke : k = s.zones.length := by simp only [decide_eq_false_iff_not, Int.ofNat_lt] at h; omega
 rw [hke, List.take_length]
 clear hke hk h k
 obtain ⟨nu, hnu⟩ : ∃ b, numZ s.zones = b := ⟨_, rfl⟩
 rw [hnu] at q1 q4 ⊢
 rw [hng] at q1 q4 q6
 cases nu with
 | true =>
  replace q1 : formsD s = [1] := q1
  repeat (first | refine und ?_ | (apply RL_pu; rfl; exact PuForms251) | (refine js ?_; (first | (apply Stp_call (h := fun w' hw hO => formsT R1 Z1 L1 H1 r1 z1 l1 h1 s [1] w' (hsm.acc (hL.up hw) (hG.up hw) (src_rd hZ1 (hO.of (A := rowR R1 r1 _) (by repeat' constructor)) (hO.of (A := rowZ Z1 z1 _) (by repeat' constructor)) (hO.of (A := rowL L1 l1 _) (by repeat' constructor)) (hO.of (A := rowS H1 h1 _) (by repeat' constructor)) (hO.of (A := .fact S1 (ErasAt Zs1)) (by repeat' constructor)))) q1); rfl; rintro v O' ⟨N1, n1, rfl, rfl⟩) | (refine callO (fun w' _ hO => equalT N1 (some ⟨bk, 0, none⟩) n1 1 [1] w' (rowRd iEnc.len (hO.of (A := .row (.slice N1 _ n1) _ _ _ _) (by repeat' constructor))) (litRd (l := [1]) iEnc.len (Nat.le_refl 1) (by decide) (hO.of (A := .blk bk _ _) (by repeat' constructor)))) ?_) | (refine callO (fun w' hw hO => inT0 R1 Z1 L1 H1 r1 z1 l1 h1 s 0 w' (hsm.acc (hL.up hw) (hG.up hw) (src_rd hZ1 (hO.of (A := rowR R1 r1 _) (by repeat' constructor)) (hO.of (A := rowZ Z1 z1 _) (by repeat' constructor)) (hO.of (A := rowL L1 l1 _) (by repeat' constructor)) (hO.of (A := rowS H1 h1 _) (by repeat' constructor)) (hO.of (A := .fact S1 (ErasAt Zs1)) (by repeat' constructor)))) q5 (by decide)) ?_) | (refine callO (fun w' hw hO => inT0 R1 Z1 L1 H1 r1 z1 l1 h1 s 4 w' (hsm.acc (hL.up hw) (hG.up hw) (src_rd hZ1 (hO.of (A := rowR R1 r1 _) (by repeat' constructor)) (hO.of (A := rowZ Z1 z1 _) (by repeat' constructor)) (hO.of (A := rowL L1 l1 _) (by repeat' constructor)) (hO.of (A := rowS H1 h1 _) (by repeat' constructor)) (hO.of (A := .fact S1 (ErasAt Zs1)) (by repeat' constructor)))) q5 (by decide)) ?_) | (refine callE hwk ?_) | (refine bx ?_; intro bk))) | refine walk1 ?_)
  exact rtA
 | false =>
  cases ng with
  | true =>
   replace q1 : formsD s = [1, 2] := q1
   repeat (first | refine und ?_ | (apply RL_pu; rfl; exact PuForms251) | (refine js ?_; (first | (apply Stp_call (h := fun w' hw hO => formsT R1 Z1 L1 H1 r1 z1 l1 h1 s [1, 2] w' (hsm.acc (hL.up hw) (hG.up hw) (src_rd hZ1 (hO.of (A := rowR R1 r1 _) (by repeat' constructor)) (hO.of (A := rowZ Z1 z1 _) (by repeat' constructor)) (hO.of (A := rowL L1 l1 _) (by repeat' constructor)) (hO.of (A := rowS H1 h1 _) (by repeat' constructor)) (hO.of (A := .fact S1 (ErasAt Zs1)) (by repeat' constructor)))) q1); rfl; rintro v O' ⟨N1, n1, rfl, rfl⟩) | (refine callO (fun w' _ hO => equalT N1 (some ⟨bk, 0, none⟩) n1 2 [1, 2] w' (rowRd iEnc.len (hO.of (A := .row (.slice N1 _ n1) _ _ _ _) (by repeat' constructor))) (litRd (l := [1, 2]) iEnc.len (Nat.le_refl 2) (by decide) (hO.of (A := .blk bk _ _) (by repeat' constructor)))) ?_) | (refine callO (fun w' hw hO => inT0 R1 Z1 L1 H1 r1 z1 l1 h1 s 0 w' (hsm.acc (hL.up hw) (hG.up hw) (src_rd hZ1 (hO.of (A := rowR R1 r1 _) (by repeat' constructor)) (hO.of (A := rowZ Z1 z1 _) (by repeat' constructor)) (hO.of (A := rowL L1 l1 _) (by repeat' constructor)) (hO.of (A := rowS H1 h1 _) (by repeat' constructor)) (hO.of (A := .fact S1 (ErasAt Zs1)) (by repeat' constructor)))) q5 (by decide)) ?_) | (refine callO (fun w' hw hO => inT0 R1 Z1 L1 H1 r1 z1 l1 h1 s 4 w' (hsm.acc (hL.up hw) (hG.up hw) (src_rd hZ1 (hO.of (A := rowR R1 r1 _) (by repeat' constructor)) (hO.of (A := rowZ Z1 z1 _) (by repeat' constructor)) (hO.of (A := rowL L1 l1 _) (by repeat' constructor)) (hO.of (A := rowS H1 h1 _) (by repeat' constructor)) (hO.of (A := .fact S1 (ErasAt Zs1)) (by repeat' constructor)))) q5 (by decide)) ?_) | (refine callE hwk ?_) | (refine bx ?_; intro bk))) | refine walk1 ?_)
   exact rtA
  | false =>
   replace q1 : formsD s = [1, 2, 3] := q1
   repeat (first | (refine js ?_; (first | (apply Stp_call (h := fun w' hw hO => formsT R1 Z1 L1 H1 r1 z1 l1 h1 s [1, 2, 3] w' (hsm.acc (hL.up hw) (hG.up hw) (src_rd hZ1 (hO.of (A := rowR R1 r1 _) (by repeat' constructor)) (hO.of (A := rowZ Z1 z1 _) (by repeat' constructor)) (hO.of (A := rowL L1 l1 _) (by repeat' constructor)) (hO.of (A := rowS H1 h1 _) (by repeat' constructor)) (hO.of (A := .fact S1 (ErasAt Zs1)) (by repeat' constructor)))) q1); rfl; rintro v O' ⟨N1, n1, rfl, rfl⟩) | (refine callO (fun w' _ hO => equalT N1 (some ⟨bk, 0, none⟩) n1 3 [1, 2, 3] w' (rowRd iEnc.len (hO.of (A := .row (.slice N1 _ n1) _ _ _ _) (by repeat' constructor))) (litRd (l := [1, 2, 3]) iEnc.len (Nat.le_refl 3) (by decide) (hO.of (A := .blk bk _ _) (by repeat' constructor)))) ?_) | (refine bx ?_; intro bk))) | refine walk ?_)
   refine W_cond rfl (fun h => ?_) (fun h => ?_)
   ·have hr0 : 0 < s.rules.length := by simpa using h
    obtain ⟨r, hrg⟩ : ∃ r, s.rules[0]? = some r := ⟨_, List.getElem?_eq_getElem hr0⟩
    have hrm := List.mem_of_getElem? hrg
    have q4 := q4 r hrm rfl rfl
    have q6 := q6 r hrm rfl
    have hsh := hsm.shift r.name
    have hx2 : (s.rules.flatMap DRule.enc)[(0 : Int).toNat * 11 + 0]? = some (.string r.name) := flat_get DRule.len s.rules 0 r 0 _ hrg rfl
    repeat (first | (apply RL_pu; rfl; (first | (apply Pu_indexAddrH; rfl; rfl; omega; omega; (intro w' _ hO; exact row_some (hO.of (A := rowR R1 r1 _) (by repeat' constructor)) hr0)) | (apply Pu_fieldAddrA; rfl) | (apply Pu_loadR; rfl; (focus repeat' constructor); exact hx2))) | (refine js ?_; (refine bx ?_; intro bk)) | refine walk1 ?_)
    generalize bk = bs
    repeat (first | refine und ?_ | (apply RL_pu; rfl; exact PuForms251) | (refine js ?_; (first | (apply Stp_call (h := fun w' hw hO => formsT R1 Z1 L1 (some ⟨bs, 0, none⟩) r1 z1 l1 1 { s with shifts := [r.name] } [3] w' (hsh.acc (hL.up hw) (hG.up hw) (srcSh_rd hZ1 (hO.of (A := rowR R1 r1 _) (by repeat' constructor)) (hO.of (A := rowZ Z1 z1 _) (by repeat' constructor)) (hO.of (A := rowL L1 l1 _) (by repeat' constructor)) (hO.of (A := .blk bs _ _) (by repeat' constructor)) (hO.of (A := .fact S1 (ErasAt Zs1)) (by repeat' constructor)))) q4); rfl; rintro v O' ⟨N2, n2, rfl, rfl⟩) | (refine callO (fun w' _ hO => equalT N2 (some ⟨bk, 0, none⟩) n2 1 [3] w' (rowRd iEnc.len (hO.of (A := .row (.slice N2 _ n2) _ _ _ _) (by repeat' constructor))) (litRd (l := [3]) iEnc.len (Nat.le_refl 1) (by decide) (hO.of (A := .blk bk _ _) (by repeat' constructor)))) ?_) | (refine callO (fun w' hw hO => inT0 R1 Z1 L1 (some ⟨bs, 0, none⟩) r1 z1 l1 1 { s with shifts := [r.name] } 0 w' (hsh.acc (hL.up hw) (hG.up hw) (srcSh_rd hZ1 (hO.of (A := rowR R1 r1 _) (by repeat' constructor)) (hO.of (A := rowZ Z1 z1 _) (by repeat' constructor)) (hO.of (A := rowL L1 l1 _) (by repeat' constructor)) (hO.of (A := .blk bs _ _) (by repeat' constructor)) (hO.of (A := .fact S1 (ErasAt Zs1)) (by repeat' constructor)))) q6 (by decide)) ?_) | (refine callO (fun w' hw hO => inT0 R1 Z1 L1 (some ⟨bs, 0, none⟩) r1 z1 l1 1 { s with shifts := [r.name] } 4 w' (hsh.acc (hL.up hw) (hG.up hw) (srcSh_rd hZ1 (hO.of (A := rowR R1 r1 _) (by repeat' constructor)) (hO.of (A := rowZ Z1 z1 _) (by repeat' constructor)) (hO.of (A := rowL L1 l1 _) (by repeat' constructor)) (hO.of (A := .blk bs _ _) (by repeat' constructor)) (hO.of (A := .fact S1 (ErasAt Zs1)) (by repeat' constructor)))) q6 (by decide)) ?_) | (refine callE hwk ?_) | (refine bx ?_; intro bk))) | refine walk1 ?_)
    exact rtA
   ·repeat (first | refine und ?_ | (apply RL_pu; rfl; exact PuForms251) | (refine js ?_; (first | (refine callO (fun w' hw hO => inT0 R1 Z1 L1 H1 r1 z1 l1 h1 s 0 w' (hsm.acc (hL.up hw) (hG.up hw) (src_rd hZ1 (hO.of (A := rowR R1 r1 _) (by repeat' constructor)) (hO.of (A := rowZ Z1 z1 _) (by repeat' constructor)) (hO.of (A := rowL L1 l1 _) (by repeat' constructor)) (hO.of (A := rowS H1 h1 _) (by repeat' constructor)) (hO.of (A := .fact S1 (ErasAt Zs1)) (by repeat' constructor)))) q5 (by decide)) ?_) | (refine callO (fun w' hw hO => inT0 R1 Z1 L1 H1 r1 z1 l1 h1 s 4 w' (hsm.acc (hL.up hw) (hG.up hw) (src_rd hZ1 (hO.of (A := rowR R1 r1 _) (by repeat' constructor)) (hO.of (A := rowZ Z1 z1 _) (by repeat' constructor)) (hO.of (A := rowL L1 l1 _) (by repeat' constructor)) (hO.of (A := rowS H1 h1 _) (by repeat' constructor)) (hO.of (A := .fact S1 (ErasAt Zs1)) (by repeat' constructor)))) q5 (by decide)) ?_) | (refine callE hwk ?_) | (refine bx ?_; intro bk))) | refine walk1 ?_)
    exact rtA
end Go.Proofs.YtbjkhnlnedfceaaGreatDoor
