/- Plain: cells of one era laid into a row of eras. A new source with the eras of one zone as a row of its own; how it reads with other eras there, and with one more zone. Contract: analemmalaw25.AcceptSpoilt. -/
import Derived.Test.YtbjkhnlnedfceaaGreatDoorQ24
import Derived.Test.YtbjkhnlnedfceaaGreatDoorQ46
import Derived.Test.YtbjkhnlnedfceaaGreatDoorQ39
import Derived.Test.YtbjkhnlnedfceaaGreatDoorQ45
set_option maxHeartbeats 4000000
set_option linter.unusedVariables false
set_option linter.unusedSimpArgs false
namespace Go.Proofs.YtbjkhnlnedfceaaGreatDoor
open Go Go.RowKit Go.Wk
theorem layR (a : List Value) : ∀ (vs cs : List Value) (j : Nat), lay (a ++ cs) (a.length + j) vs = a ++ lay cs j vs
 | [], _, _ => rfl
 | v :: r, cs, j => by rw [lay, lay, List.set_append_right _ _ (by omega), show a.length + j - a.length = j by omega, Nat.add_assoc, layR a r]
theorem layL (c : List Value) : ∀ (vs a : List Value) (j : Nat), j + vs.length ≤ a.length → lay (a ++ c) j vs = lay a j vs ++ c
 | [], _, _, _ => rfl
 | v :: r, a, j, h => by
  rw [List.length_cons] at h
  rw [lay, lay, List.set_append_left _ _ (by omega), layL c r _ _ (by rw [List.length_set]; omega)]
theorem flat_len' {l : List DEra} : (l.flatMap DEra.enc).length = l.length * 13 := by
 induction l with
 | nil => rfl
 | cons a l ih => rw [List.flatMap_cons, List.length_append, ih, DEra.len, List.length_cons]; omega
theorem lay_era {l : List DEra} {k off : Nat} {e e' : DEra} {vs : List Value} (hk : l[k]? = some e) (hv : off + vs.length ≤ 13) (he : lay e.enc off vs = e'.enc) : lay (l.flatMap DEra.enc) (k * 13 + off) vs = (l.set k e').flatMap DEra.enc := by
 obtain ⟨hl, hx⟩ := List.getElem?_eq_some_iff.1 hk
 have h1 : l = l.take k ++ (e :: l.drop (k + 1)) := by rw [← hx, List.getElem_cons_drop, List.take_append_drop]
 have h2 : l.set k e' = l.take k ++ (e' :: l.drop (k + 1)) := by rw [List.set_eq_take_append_cons_drop, if_pos hl]
 have h3 : ((l.take k).flatMap DEra.enc).length = k * 13 := by rw [flat_len', List.length_take, Nat.min_eq_left (by omega)]
 rw [h2]
 conv => lhs; rw [h1]
 rw [List.flatMap_append, List.flatMap_append, List.flatMap_cons, List.flatMap_cons, ← h3, layR, layL _ _ _ _ (by rw [DEra.len]; exact hv), he]
theorem set_get {l : List DEra} {k : Nat} (e : DEra) (h : k < l.length) : (l.set k e)[k]? = some e := List.getElem?_set_self h
theorem lay_era2 {l : List DEra} {k off : Nat} {e e' : DEra} {vs : List Value} (hk : k < l.length) (hv : off + vs.length ≤ 13) (he : lay e.enc off vs = e'.enc) : lay ((l.set k e).flatMap DEra.enc) (k * 13 + off) vs = (l.set k e').flatMap DEra.enc := by
 rw [lay_era (set_get e hk) hv he, List.set_set]
theorem lay_off {l : List DEra} {k : Nat} {e : DEra} (hk : k < l.length) (v : Int) : lay ((l.set k e).flatMap DEra.enc) (k * 13 + 0) [.int .i64 v] = (l.set k { e with off := v }).flatMap DEra.enc := lay_era2 hk (by decide : 0 + 1 ≤ 13) rfl
theorem lay_kind {l : List DEra} {k : Nat} {e : DEra} (hk : k < l.length) (v : Int) : lay ((l.set k e).flatMap DEra.enc) (k * 13 + 1) [.int .i64 v] = (l.set k { e with kind := v }).flatMap DEra.enc := lay_era2 hk (by decide : 1 + 1 ≤ 13) rfl
theorem lay_save {l : List DEra} {k : Nat} {e : DEra} (hk : k < l.length) (v : Int) : lay ((l.set k e).flatMap DEra.enc) (k * 13 + 2) [.int .i64 v] = (l.set k { e with save := v }).flatMap DEra.enc := lay_era2 hk (by decide : 2 + 1 ≤ 13) rfl
theorem lay_eset {l : List DEra} {k : Nat} {e : DEra} (hk : k < l.length) (v : ByteArray) : lay ((l.set k e).flatMap DEra.enc) (k * 13 + 3) [.string v] = (l.set k { e with set := v }).flatMap DEra.enc := lay_era2 hk (by decide : 3 + 1 ≤ 13) rfl
theorem lay_fmt {l : List DEra} {k : Nat} {e : DEra} (hk : k < l.length) (v : ByteArray) : lay ((l.set k e).flatMap DEra.enc) (k * 13 + 4) [.string v] = (l.set k { e with format := v }).flatMap DEra.enc := lay_era2 hk (by decide : 4 + 1 ≤ 13) rfl
theorem lay_til {l : List DEra} {k : Nat} {e : DEra} (hk : k < l.length) (b : Bool) (y m a w d s t : Int) : lay ((l.set k e).flatMap DEra.enc) (k * 13 + 5) [.bool b, .int .i64 y, .int .i64 m, .int .i64 a, .int .i64 w, .int .i64 d, .int .i64 s, .int .i64 t] = (l.set k { e with til := ⟨b, y, m, ⟨a, w, d⟩, ⟨s, t⟩⟩ }).flatMap DEra.enc := lay_era2 hk (by decide : 5 + 8 ≤ 13) rfl
def NewSrcI (i : Nat) (s : DSource) (v : Value) (O : List It) : Prop :=
 ∃ (Ar : Option Addr) (cr : Nat) (Az : Option Addr) (cz : Nat) (Al : Option Addr) (cl : Nat) (As : Option Addr) (cs : Nat) (Zs : List ZE) (S : Nat → Prop) (q : ZE), v = srcV Ar Az Al As cr cz cl cs s ∧ Zs.map ZE.z = s.zones ∧ Zs[i]? = some q ∧ O = [rowR Ar cr s.rules, .row (.slice Az s.zones.length cz) 43 2 s.zones.length (Zs.flatMap ZE.enc), rowL Al cl s.links, rowS As cs s.shifts, eraRow q, .fact S (ErasAt (Zs.eraseIdx i))]
theorem erase_perm {α : Type} : ∀ {l : List α} {i : Nat} (h : i < l.length), l.Perm (l[i] :: l.eraseIdx i)
 | x :: l, 0, _ => List.Perm.refl _
 | x :: l, i + 1, h => ((erase_perm (l := l) (i := i) (by simpa using h)).cons x).trans (List.Perm.swap _ _ _)
theorem newSrcI_of {i : Nat} {s : DSource} {v : Value} {O : List It} (h : NewSrcR s v O) (hi : i < s.zones.length) : ∃ O', NewSrcI i s v O' ∧ ∀ base w', Holds base O w' → Holds base O' w' := by
 obtain ⟨Ar, cr, Az, cz, Al, cl, As, cs, Zs, rfl, hz, rfl⟩ := h
 have hi2 : i < Zs.length := by rw [← hz, List.length_map] at hi; exact hi
 refine ⟨_, ⟨Ar, cr, Az, cz, Al, cl, As, cs, Zs, foot ((Zs.eraseIdx i).map eraRow), Zs[i], rfl, hz, List.getElem?_eq_getElem hi2, rfl⟩, fun base w' hH => ?_⟩
 have hp : (Zs.map eraRow).Perm (eraRow Zs[i] :: (Zs.eraseIdx i).map eraRow) := (erase_perm hi2).map eraRow
 have h0 : Holds base ((Zs.eraseIdx i).map eraRow ++ [rowR Ar cr s.rules, rowZ Az cz Zs, rowL Al cl s.links, rowS As cs s.shifts, eraRow Zs[i]]) w' :=
  hH.perm ((((hp.cons _).cons _).cons _).cons _ |>.trans (List.perm_append_comm (l₁ := [rowR Ar cr s.rules, rowZ Az cz Zs, rowL Al cl s.links, rowS As cs s.shifts, eraRow Zs[i]])))
 have h2 := h0.fact (p := ErasAt (Zs.eraseIdx i)) (fun w2 hi q hq => rowRd DEra.len (hi (eraRow q) (List.mem_map.2 ⟨q, hq, rfl⟩)))
 have e : It.row (.slice Az s.zones.length cz) 43 2 s.zones.length (Zs.flatMap ZE.enc) = rowZ Az cz Zs := by rw [← hz, List.length_map]
 rw [e]
 exact h2.perm (List.perm_append_comm (l₁ := [_]) (l₂ := [rowR Ar cr s.rules, rowZ Az cz Zs, rowL Al cl s.links, rowS As cs s.shifts, eraRow Zs[i]]))
theorem mem_set_erase {α : Type} {l : List α} {i : Nat} {a x : α} (h : x ∈ l.set i a) : x = a ∨ x ∈ l.eraseIdx i := by
 obtain ⟨j, hj⟩ := List.getElem?_of_mem h
 by_cases hji : i = j
 ·subst hji
  have hl : i < l.length := by
   have := (List.getElem?_eq_some_iff.1 hj).1
   rwa [List.length_set] at this
  rw [List.getElem?_set_self hl] at hj
  exact .inl (Option.some.inj hj).symm
 ·rw [List.getElem?_set_ne hji] at hj
  obtain ⟨hl, hx⟩ := List.getElem?_eq_some_iff.1 hj
  exact .inr (List.mem_eraseIdx_iff_getElem.2 ⟨j, hl, fun e => hji e.symm, hx⟩)
theorem flat_set_same {α β : Type} (f : α → List β) : ∀ (l : List α) (i : Nat) (a b : α), l[i]? = some b → f a = f b → (l.set i a).flatMap f = l.flatMap f
 | [], i, a, b, h, _ => by simp at h
 | x :: l, 0, a, b, h, hf => by
  simp only [List.getElem?_cons_zero, Option.some.injEq] at h
  subst h
  rw [List.set_cons_zero, List.flatMap_cons, List.flatMap_cons, hf]
 | x :: l, i + 1, a, b, h, hf => by
  rw [List.set_cons_succ, List.flatMap_cons, List.flatMap_cons, flat_set_same f l i a b (by simpa using h) hf]
def lastZE (x : ByteArray) : ZE := ⟨⟨x, []⟩, none, 0⟩
theorem srcI_rd {w : World} {Ar Az Al As : Option Addr} {cr cz cl cs i : Nat} {Zs : List ZE} {S : Nat → Prop} {q : ZE} {s : DSource} {es : List DEra} {x : ByteArray} (hz : Zs.map ZE.z = s.zones) (hq : Zs[i]? = some q) (hes : es.length = q.z.eras.length)
  (h1 : (rowR Ar cr s.rules).sat w) (h2 : (It.row (.slice Az (s.zones.length + 1) cz) 43 2 (s.zones.length + 1) (Zs.flatMap ZE.enc ++ [.string x, .slice none 0 0])).sat w) (h3 : (rowL Al cl s.links).sat w) (h4 : (rowS As cs s.shifts).sat w)
  (h5 : (It.row (.slice q.A q.z.eras.length q.c) 48 13 q.z.eras.length (es.flatMap DEra.enc)).sat w) (h6 : (It.fact S (ErasAt (Zs.eraseIdx i))).sat w) :
  RdSource w Ar Az Al As cr cz cl cs { s with zones := s.zones.set i ⟨q.z.name, es⟩ ++ [⟨x, []⟩] } := by
 have hzl : s.zones.length = Zs.length := by rw [← hz, List.length_map]
 rw [hzl] at h2
 have hlen : (Zs.set i ⟨⟨q.z.name, es⟩, q.A, q.c⟩ ++ [lastZE x]).length = Zs.length + 1 := by rw [List.length_append, List.length_set]; rfl
 have hfl : (Zs.set i ⟨⟨q.z.name, es⟩, q.A, q.c⟩ ++ [lastZE x]).flatMap ZE.enc = Zs.flatMap ZE.enc ++ (lastZE x).enc := by
  rw [List.flatMap_append, flat_set_same ZE.enc Zs i _ q hq (by unfold ZE.enc; dsimp only; rw [hes])]
  simp
 have hmap : (Zs.set i ⟨⟨q.z.name, es⟩, q.A, q.c⟩ ++ [lastZE x]).map ZE.z = s.zones.set i ⟨q.z.name, es⟩ ++ [⟨x, []⟩] := by
  rw [List.map_append, List.map_set, hz]
  rfl
 have hrow : RdSl w Az cz ZE.enc 2 (Zs.set i ⟨⟨q.z.name, es⟩, q.A, q.c⟩ ++ [lastZE x]) := rowRd ZE.len (by rw [hlen, hfl]; exact h2)
 have hat : ErasAt (Zs.set i ⟨⟨q.z.name, es⟩, q.A, q.c⟩ ++ [lastZE x]) w := fun y hy => by
  rcases List.mem_append.1 hy with hy | hy
  ·rcases mem_set_erase hy with rfl | hy
   ·exact rowRd DEra.len (by rw [hes]; exact h5)
   ·exact fact_at h6 y hy
  ·rw [List.mem_singleton.1 hy]
   exact nilRd _ _ _
 have hl2 : (s.zones.set i ⟨q.z.name, es⟩ ++ [(⟨x, []⟩ : DZone)]).length = (Zs.set i ⟨⟨q.z.name, es⟩, q.A, q.c⟩ ++ [lastZE x]).length := by rw [← hmap, List.length_map]
 exact ⟨rowRd DRule.len h1, by show (s.zones.set i ⟨q.z.name, es⟩ ++ [(⟨x, []⟩ : DZone)]).length ≤ cz; rw [hl2]; exact hrow.le, hrow.cap, hmap ▸ zones_rd hrow hat, rowRd DLink.len h3, rowRd strEnc.len h4⟩
attribute [local irreducible] W RL Does thenQ blockQ retQ Calls Pu Stp RD Qy Ay DoesIn made25
theorem spo_at (d : DDr) (i : Nat) (x : Int) {z : DZone} (hz : (made25 d).zones[i]? = some z) : (1 ≤ z.eras.length ∧ z.eras.length ≤ 4) ∧ ∀ k e, z.eras[k]? = some e →
  faultB { made25 d with zones := (made25 d).zones.set i ⟨z.name, z.eras.set k (spoil x k z.eras.length e).1⟩ ++ [⟨lastN', []⟩] } ⟨2, i, k⟩ (spoil x k z.eras.length e).2 = true ∧ Sml { made25 d with zones := (made25 d).zones.set i ⟨z.name, z.eras.set k (spoil x k z.eras.length e).1⟩ ++ [⟨lastN', []⟩] } := by
 obtain ⟨Y, hY⟩ := made25_zones d z (List.mem_of_getElem? hz)
 refine ⟨hY.len, fun k e he => ?_⟩
 have hi := (List.getElem?_eq_some_iff.1 hz).1
 have hk := (List.getElem?_eq_some_iff.1 he).1
 have e1 : (made25 d).zones.getD i ⟨ByteArray.empty, []⟩ = z := by rw [List.getD_eq_getElem?_getD, hz]; rfl
 have e2 : z.eras.getD k dE0 = e := by rw [List.getD_eq_getElem?_getD, he]; rfl
 have h1 := spo_fault d i k x hi (by rw [e1]; exact hk)
 have h2 := spo_sml d i k x hi (by rw [e1]; exact hk)
 unfold spoSrc at h1 h2
 unfold spoE at h1
 unfold spoZ at h1 h2
 rw [e1, e2] at h1 h2
 exact ⟨h1, h2⟩
theorem cellsI (k : IntKind) (i : Int) : (Value.int k i).cells.toList = [.int k i] := rfl
theorem cellsS (x : ByteArray) : (Value.string x).cells.toList = [.string x] := rfl
theorem cellsA (l : List Value) : (Value.agg l.toArray).cells.toList = l := rfl
theorem faultI (Ar Az Al As : Option Addr) (cr cz cl cs : Nat) (s : DSource) (i k : Nat) (z : DZone) (x : ByteArray) (e : Int) (w : World) (h : AccOk w Ar Az Al As cr cz cl cs { s with zones := s.zones.set i z ++ [⟨x, []⟩] }) (hf : faultB { s with zones := s.zones.set i z ++ [⟨x, []⟩] } ⟨2, i, k⟩ e = true) :
  Does Tryz.prog 17 [.agg #[.slice Ar s.rules.length cr, .slice Az (s.zones.length + 1) cz, .slice Al s.links.length cl, .slice As s.shifts.length cs], .agg #[.int .i64 2, .int .i64 i, .int .i64 k], .int .i64 e] w (fun v O => v = .bool true ∧ O = []) := by
 have := faultT Ar Az Al As cr cz cl cs { s with zones := s.zones.set i z ++ [⟨x, []⟩] } ⟨2, i, k⟩ e w h hf
 have hl : (s.zones.set i z ++ [(⟨x, []⟩ : DZone)]).length = s.zones.length + 1 := by rw [List.length_append, List.length_set]; rfl
 unfold srcV at this
 dsimp only at this
 rw [hl] at this
 exact this
theorem PuSpo253 {G : Prop} (h : G := by (apply Pu_fieldAddr; rfl)) : G := h
theorem wkSpo250 {G G' : Prop} (k : G') (h : Hold G' → G := by intro k9; (first | (apply RL_pu; rfl; exact PuSpo253) | refine walk1 ?_); exact k9.out) : G := h ⟨k⟩
theorem PuSpo254 {G : Prop} (h : G := by (first | exact PuSpo253 | (apply Pu_eqlB; rfl; rfl; exact hk0))) : G := h
theorem PuSpo255 {G : Prop} (h : G := by (first | exact PuSpo253 | (apply Pu_eqlB; rfl; rfl; exact hk9))) : G := h
set_option maxHeartbeats 8000000 in
theorem acceptSpoilt_spec (As Al : Option Addr) (cs c : Nat) (d : DDr) (which what : Int) (w : World) (hL : LibW w) (hG : Glob w) (hS : RdSets w As cs d.sets) (hD : RdSl w Al c byEnc 1 d.L) (hr : ∀ x ∈ d.L, inR .u8 x) (hrs : ∀ l ∈ d.sets, ∀ x ∈ l, inR .u8 x) (hz : inR .u8 d.zones) (hl : inR .u8 d.links) (hw1 : inR .u8 which) (hw2 : inR .u8 what) :
  Does Tryz.prog 4 [dr25V As Al cs c d, .int .u8 which, .int .u8 what] w (fun v O => v = .bool true ∧ O = []) := by
 have hwk := fun w' (hw : Bel w.heap.size w w') => works25_spec w' (hL.up hw) (hG.up hw)
 rw [inR_u8] at hw1 hw2
 have hzn := (made25_sml d).nz
 by_cases h0 : (made25 d).zones.length = 0
 ·have hmk := fun w' (hw : Bel w.heap.size w w') => (made25_spec As Al cs c d w' (hS.up hw) (hD.up hw) hr hrs hz hl).monoO fun _ _ h => newSrc_of h
  generalize made25 d = s at *
  have hb : decide ((s.zones.length : Int) = 0) = true := decide_eq_true (by omega)
  refine Does_of_W Tryz.func4 rfl rfl rfl rfl ?_
  repeat (first | (apply RL_pu; rfl; (apply Pu_eqlB; rfl; rfl; exact hb)) | (refine js ?_; (first | (apply Stp_call (h := fun w' hw _ => hmk w' hw); rfl; rintro v O' ⟨R1, r1, Z1, z1, L1, l1, H1, h1, Zs1, S1, rfl, hZ1, rfl⟩) | (refine callE hwk ?_) | (refine bx ?_; intro bk))) | refine walk1 ?_)
  exact rtA
 ·have hb : decide (((made25 d).zones.length : Int) = 0) = false := decide_eq_false (by omega)
  have m0 := Int.emod_nonneg which (b := ((made25 d).zones.length : Int)) (by omega)
  have m1 := Int.emod_lt_of_pos which (b := ((made25 d).zones.length : Int)) (by omega)
  have n0 := m0
  have n1 := m1
  obtain ⟨i, hi⟩ : ∃ i : Nat, which % ((made25 d).zones.length : Int) = i := ⟨(which % ((made25 d).zones.length : Int)).toNat, by omega⟩
  rw [hi] at m0 m1
  have hmk := fun w' (hw : Bel w.heap.size w w') => (made25_spec As Al cs c d w' (hS.up hw) (hD.up hw) hr hrs hz hl).monoO fun _ _ h => newSrcI_of (i := i) h (by omega)
  obtain ⟨x, hxe⟩ : ∃ x, what % 10 = x := ⟨_, rfl⟩
  have hsp := fun z hz => spo_at d i x (z := z) hz
  generalize made25 d = s at *
  refine Does_of_W Tryz.func4 rfl rfl rfl rfl ?_
  repeat (first | (apply RL_pu; rfl; (first | (apply Pu_indexAddrH; rfl; rfl; exact n0; exact n1; (intro w' _ hO; exact row_some (hO.of (A := .row (.slice Z1 s.zones.length z1) _ _ _ _) (by repeat' constructor)) (by omega))) | (apply Pu_eqlB; rfl; rfl; exact hb))) | (refine js ?_; (first | (apply Stp_call (h := fun w' hw _ => hmk w' hw); rfl; rintro v O' ⟨R1, r1, Z1, z1, L1, l1, H1, h1, Zs, S1, q, rfl, hZ1, hq, rfl⟩) | (refine bx ?_; intro bk))) | refine walk1 ?_)
  have hzl : s.zones.length = Zs.length := by rw [← hZ1, List.length_map]
  have hx1 : (Zs.flatMap ZE.enc)[(which % (s.zones.length : Int)).toNat * 2 + 1]? = some (.slice q.A q.z.eras.length q.c) := by
   rw [hi, Int.toNat_natCast]
   exact flat_get ZE.len Zs i q 1 _ hq rfl
  have hqz : s.zones[i]? = some q.z := by rw [← hZ1, List.getElem?_map, hq]; rfl
  obtain ⟨⟨l0, l4⟩, hsp⟩ := hsp q.z hqz
  have e0 := Int.emod_nonneg (which / 8) (b := (q.z.eras.length : Int)) (by omega)
  have e1 := Int.emod_lt_of_pos (which / 8) (b := (q.z.eras.length : Int)) (by omega)
  obtain ⟨k, hk⟩ : ∃ k : Nat, which / 8 % (q.z.eras.length : Int) = k := ⟨(which / 8 % (q.z.eras.length : Int)).toNat, by omega⟩
  repeat (first | (apply RL_pu; rfl; (first | (apply Pu_loadRF; rfl; (focus repeat' constructor); exact hx1) | (apply Pu_indexAddrH; rfl; rfl; exact e0; exact e1; (intro w' _ hO; exact row_some (hO.of (A := .row (.slice q.A q.z.eras.length q.c) _ _ _ _) (by repeat' constructor)) (by omega))) | (apply Pu_remE; rfl; rfl; omega; omega) | (apply Pu_quo8; rfl; rfl; omega; omega; omega) | (apply Pu_conv64; rfl; omega))) | (refine js ?_; (refine bx ?_; intro bk)) | refine walkB1 ?_)
  rw [hi, hk, hxe]
  simp only [Int.toNat_natCast]
  rename_i b3 b7
  generalize bk = b12
  have hkl : k < q.z.eras.length := by omega
  obtain ⟨e, he⟩ : ∃ e, q.z.eras[k]? = some e := ⟨_, List.getElem?_eq_getElem hkl⟩
  obtain ⟨hF, hsm⟩ := hsp k e he
  clear hsp
  have hse : q.z.eras.flatMap DEra.enc = (q.z.eras.set k e).flatMap DEra.enc := by
   rw [show q.z.eras.set k e = q.z.eras from List.ext_getElem? fun j => by
    by_cases hj : k = j
    ·subst hj; rw [List.getElem?_set_self hkl, he]
    ·rw [List.getElem?_set_ne hj]]
  have hx10 : 0 ≤ x ∧ x ≤ 9 := by omega
  have hlen : ∀ e2 : DEra, ((q.z.eras.set k e2).flatMap DEra.enc).length = q.z.eras.length * 13 := fun e2 => by rw [flat_len', List.length_set]
  obtain ⟨p, hp⟩ : ∃ p, spoil x k q.z.eras.length e = p := ⟨_, rfl⟩
  rw [hp] at hF hsm
  unfold eraRow
  rw [hse]
  refine W_post (fun fr' O' => Sub [(7, .pointer (some ⟨b7, 0, none⟩)), (12, .pointer (some ⟨b12, 0, none⟩)), (13, .int .i64 p.2)] fr' ∧ SubO [.blk b12 [.int .i64 2, .int .i64 i, .int .i64 k] 54, .blk b7 [.slice R1 s.rules.length r1, .slice Z1 s.zones.length z1, .slice L1 s.links.length l1, .slice H1 s.shifts.length h1] 31, rowR R1 r1 s.rules, .row (.slice Z1 s.zones.length z1) 43 2 s.zones.length (Zs.flatMap ZE.enc), rowL L1 l1 s.links, rowS H1 h1 s.shifts, .row (.slice q.A q.z.eras.length q.c) 48 13 q.z.eras.length ((q.z.eras.set k p.1).flatMap DEra.enc), .fact S1 (ErasAt (Zs.eraseIdx i))] O') ?_ ?_
  ·apply W_block
   have hc : x = 0 ∨ x = 1 ∨ x = 2 ∨ x = 3 ∨ x = 4 ∨ x = 5 ∨ x = 6 ∨ x = 7 ∨ x = 8 ∨ x = 9 := by omega
   clear hxe hx10
   rcases hc with rfl | rfl | rfl | rfl | rfl | rfl | rfl | rfl | rfl | rfl
   ·obtain rfl : (({ e with kind := 3 } : DEra), (2 : Int)) = p := hp
    repeat (first | refine wkSpo250 ?_ | (refine js ?_; (first | (apply Stp_storeRF; rfl; rfl; (focus repeat' constructor); rfl; rfl; rfl; (simp only [lay_length, hlen]; omega); decide; rfl) | (refine bx ?_; intro bk))))
    refine ⟨rfl, SFA, ?_⟩
    simp only [cellsI, cellsS, lay_off hkl, lay_kind hkl, lay_save hkl, lay_eset hkl, lay_fmt hkl, lay_til hkl]
    exact SOA
   ·obtain rfl : (({ e with kind := -1 } : DEra), (2 : Int)) = p := hp
    repeat (first | refine wkSpo250 ?_ | (refine js ?_; (first | (apply Stp_storeRF; rfl; rfl; (focus repeat' constructor); rfl; rfl; rfl; (simp only [lay_length, hlen]; omega); decide; rfl) | (refine bx ?_; intro bk))))
    refine ⟨rfl, SFA, ?_⟩
    simp only [cellsI, cellsS, lay_off hkl, lay_kind hkl, lay_save hkl, lay_eset hkl, lay_fmt hkl, lay_til hkl]
    exact SOA
   ·by_cases h0k : k = 0
    ·have hk0 : decide ((k : Int) = 0) = true := decide_eq_true (by omega)
     obtain rfl : (({ e with kind := 2, set := ⟨#[82]⟩, save := 0 } : DEra), (12 : Int)) = p := (if_pos h0k).symm.trans hp
     repeat (first | (apply RL_pu; rfl; exact PuSpo254) | (refine js ?_; (first | (apply Stp_storeRF; rfl; rfl; (focus repeat' constructor); rfl; rfl; rfl; (simp only [lay_length, hlen]; omega); decide; rfl) | (refine bx ?_; intro bk))) | refine walk1 ?_)
     refine ⟨rfl, SFA, ?_⟩
     simp only [cellsI, cellsS, lay_off hkl, lay_kind hkl, lay_save hkl, lay_eset hkl, lay_fmt hkl, lay_til hkl]
     exact SOA
    ·have hk0 : decide ((k : Int) = 0) = false := decide_eq_false (by omega)
     obtain rfl : (({ e with kind := 2, set := noneN, save := 0 } : DEra), (9 : Int)) = p := (if_neg h0k).symm.trans hp
     repeat (first | (apply RL_pu; rfl; exact PuSpo254) | (refine js ?_; (first | (apply Stp_storeRF; rfl; rfl; (focus repeat' constructor); rfl; rfl; rfl; (simp only [lay_length, hlen]; omega); decide; rfl) | (refine bx ?_; intro bk))) | refine walk1 ?_)
     refine ⟨rfl, SFA, ?_⟩
     simp only [cellsI, cellsS, lay_off hkl, lay_kind hkl, lay_save hkl, lay_eset hkl, lay_fmt hkl, lay_til hkl]
     exact SOA
   ·obtain rfl : (({ e with kind := 1, set := ByteArray.empty, save := 10801 } : DEra), (14 : Int)) = p := hp
    repeat (first | refine wkSpo250 ?_ | (refine js ?_; (first | (apply Stp_storeRF; rfl; rfl; (focus repeat' constructor); rfl; rfl; rfl; (simp only [lay_length, hlen]; omega); decide; rfl) | (refine bx ?_; intro bk))))
    refine ⟨rfl, SFA, ?_⟩
    simp only [cellsI, cellsS, lay_off hkl, lay_kind hkl, lay_save hkl, lay_eset hkl, lay_fmt hkl, lay_til hkl]
    exact SOA
   ·obtain rfl : (({ e with kind := 1, set := ByteArray.empty, save := 0 } : DEra), (14 : Int)) = p := hp
    repeat (first | refine wkSpo250 ?_ | (refine js ?_; (first | (apply Stp_storeRF; rfl; rfl; (focus repeat' constructor); rfl; rfl; rfl; (simp only [lay_length, hlen]; omega); decide; rfl) | (refine bx ?_; intro bk))))
    refine ⟨rfl, SFA, ?_⟩
    simp only [cellsI, cellsS, lay_off hkl, lay_kind hkl, lay_save hkl, lay_eset hkl, lay_fmt hkl, lay_til hkl]
    exact SOA
   ·obtain rfl : (({ e with off := 54001 } : DEra), (3 : Int)) = p := hp
    repeat (first | refine wkSpo250 ?_ | (refine js ?_; (first | (apply Stp_storeRF; rfl; rfl; (focus repeat' constructor); rfl; rfl; rfl; (simp only [lay_length, hlen]; omega); decide; rfl) | (refine bx ?_; intro bk))))
    refine ⟨rfl, SFA, ?_⟩
    simp only [cellsI, cellsS, lay_off hkl, lay_kind hkl, lay_save hkl, lay_eset hkl, lay_fmt hkl, lay_til hkl]
    exact SOA
   ·obtain rfl : (({ e with off := -54001 } : DEra), (3 : Int)) = p := hp
    repeat (first | refine wkSpo250 ?_ | (refine js ?_; (first | (apply Stp_storeRF; rfl; rfl; (focus repeat' constructor); rfl; rfl; rfl; (simp only [lay_length, hlen]; omega); decide; rfl) | (refine bx ?_; intro bk))))
    refine ⟨rfl, SFA, ?_⟩
    simp only [cellsI, cellsS, lay_off hkl, lay_kind hkl, lay_save hkl, lay_eset hkl, lay_fmt hkl, lay_til hkl]
    exact SOA
   ·obtain rfl : (({ e with kind := 0, save := 1, set := ByteArray.empty } : DEra), (2 : Int)) = p := hp
    repeat (first | refine wkSpo250 ?_ | (refine js ?_; (first | (apply Stp_storeRF; rfl; rfl; (focus repeat' constructor); rfl; rfl; rfl; (simp only [lay_length, hlen]; omega); decide; rfl) | (refine bx ?_; intro bk))))
    refine ⟨rfl, SFA, ?_⟩
    simp only [cellsI, cellsS, lay_off hkl, lay_kind hkl, lay_save hkl, lay_eset hkl, lay_fmt hkl, lay_til hkl]
    exact SOA
   ·obtain rfl : (({ e with format := ⟨#[88]⟩ } : DEra), (15 : Int)) = p := hp
    repeat (first | refine wkSpo250 ?_ | (refine js ?_; (first | (apply Stp_storeRF; rfl; rfl; (focus repeat' constructor); rfl; rfl; rfl; (simp only [lay_length, hlen]; omega); decide; rfl) | (refine bx ?_; intro bk))))
    refine ⟨rfl, SFA, ?_⟩
    simp only [cellsI, cellsS, lay_off hkl, lay_kind hkl, lay_save hkl, lay_eset hkl, lay_fmt hkl, lay_til hkl]
    exact SOA
   ·by_cases h9 : k + 1 = q.z.eras.length
    ·have hk9 : decide ((k : Int) = (q.z.eras.length : Int) - 1) = true := decide_eq_true (by omega)
     obtain rfl : (({ e with til := tilX } : DEra), (12 : Int)) = p := (congrArg (Prod.mk { e with til := tilX }) (if_pos h9).symm).trans hp
     repeat (first | (apply RL_pu; rfl; exact PuSpo255) | (refine js ?_; (first | (apply Stp_storeRF; rfl; rfl; (focus repeat' constructor); rfl; rfl; rfl; (simp only [lay_length, hlen]; omega); decide; rfl) | (refine bx ?_; intro bk))) | refine walk1 ?_)
     refine ⟨rfl, SFA, ?_⟩
     simp only [cellsA, lay_til hkl]
     exact SOA
    ·have hk9 : decide ((k : Int) = (q.z.eras.length : Int) - 1) = false := decide_eq_false (by omega)
     obtain rfl : (({ e with til := tilX } : DEra), (3 : Int)) = p := (congrArg (Prod.mk { e with til := tilX }) (if_neg h9).symm).trans hp
     repeat (first | (apply RL_pu; rfl; exact PuSpo255) | (refine js ?_; (first | (apply Stp_storeRF; rfl; rfl; (focus repeat' constructor); rfl; rfl; rfl; (simp only [lay_length, hlen]; omega); decide; rfl) | (refine bx ?_; intro bk))) | refine walk1 ?_)
     refine ⟨rfl, SFA, ?_⟩
     simp only [cellsA, lay_til hkl]
     exact SOA
  ·rintro fr' O' ⟨hf, hO⟩
   apply thenQ_n
   refine W_sub hf hO ?_
   clear hf hO fr' O'
   repeat (first | (refine js ?_; (first | (apply Stp_append (t := 27); rfl; rfl; (intro A' c'; (focus repeat' constructor)); (intro w' _ hO; exact blkRaw (hO.of (by repeat' constructor))); rfl; rfl; (simp only [maxLen]; omega); omega; intro A' c' hc1 hc2 hc3) | (refine bx ?_; intro bk))) | refine walk ?_)
   repeat (first | (refine js ?_; (first | (refine callO (fun w' hw hO => faultI R1 A' L1 H1 r1 c' l1 h1 s i k ⟨q.z.name, q.z.eras.set k p.1⟩ lastN' p.2 w' (hsm.acc (hL.up hw) (hG.up hw) (srcI_rd hZ1 hq (by rw [List.length_set]) (hO.of (A := rowR R1 r1 _) (by repeat' constructor)) (hO.of (A := .row (.slice A' _ c') _ _ _ _) (by repeat' constructor)) (hO.of (A := rowL L1 l1 _) (by repeat' constructor)) (hO.of (A := rowS H1 h1 _) (by repeat' constructor)) (hO.of (A := .row (.slice q.A _ q.c) _ _ _ _) (by repeat' constructor)) (hO.of (A := .fact S1 _) (by repeat' constructor)))) hF) ?_) | (refine callE hwk ?_) | (refine bx ?_; intro bk))) | refine walk ?_)
   exact rtA
end Go.Proofs.YtbjkhnlnedfceaaGreatDoor
