/- Contract: printer.Copy. -/
import Derived.Test.YtfhjfpikngcknaaKeepG
namespace Go.Proofs.Ytfhjfpikngcknaa
open Go Go.RowKit Go.Wk
theorem zeOf2 {w : World} {A : Option Addr} : ∀ (zs : List DZone) (off : Nat), (∀ k z, zs[k]? = some z → A ≠ none ∧ ∃ cs, RdZone w z cs ∧ CellsAt w ((adr A).add ((off + k) * 2)) cs) →
    ∃ Zs : List ZE, Zs.map ZE.z = zs ∧ (∀ k q, Zs[k]? = some q → A ≠ none ∧ CellsAt w ((adr A).add ((off + k) * 2)) q.enc) ∧ ErasAt Zs w
  | [], _, _ => ⟨[], rfl, fun _ _ h => by simp at h, fun _ h => by simp at h⟩
  | z :: zs, off, h => by
    obtain ⟨h1, cs, ⟨A', c', h2, rfl⟩, h3⟩ := h 0 z rfl
    obtain ⟨Zs, h4, h5, h6⟩ := zeOf2 (A := A) zs (off + 1) fun k z' hz => by
      have := h (k + 1) z' (by simpa using hz)
      rwa [show off + (k + 1) = off + 1 + k from by omega] at this
    refine ⟨⟨z, A', c'⟩ :: Zs, by simp [h4], fun k q hq => ?_, fun q hq => ?_⟩
    · cases k with
      | zero =>
        simp only [List.getElem?_cons_zero, Option.some.injEq] at hq
        subst hq
        exact ⟨h1, h3⟩
      | succ k =>
        have := h5 k q (by simpa using hq)
        rwa [show off + 1 + k = off + (k + 1) from by omega] at this
    · rcases List.mem_cons.1 hq with rfl | hq
      · exact h2
      · exact h6 q hq
theorem srcZe2 {w : World} {Ar Az Al As : Option Addr} {cr cz cl cs : Nat} {s : DSource} (h : RdSource w Ar Az Al As cr cz cl cs s) : ∃ Zs : List ZE, Zs.map ZE.z = s.zones ∧ RdSl w Az cz ZE.enc 2 Zs ∧ ErasAt Zs w := by
  obtain ⟨Zs, h1, h2, h3⟩ := zeOf2 s.zones 0 (fun k z hz => by simpa using h.z k z hz)
  exact ⟨Zs, h1, ⟨by rw [← List.length_map (f := ZE.z), h1]; exact h.zle, h.zcap, fun k q hq => by simpa using h2 k q hq⟩, h3⟩

section
variable {P : Program} {n : Nat} {wr : World} {fr : Fr} {O : List It} {ty : TypeId} {pos : String} {af : Array Edge} {dst : Option Tmp} {g : Option (Nat × Bool)} {Kp : Value → List It → Prop}
theorem Pu_loadRF {t sz e size p q m c : Nat} {x : Operand} {A : Option Addr} {xs : List Value} {v : Value} {R : List It} [Ty P t sz false] (hx : ev fr x = some (.pointer (some (((adr A).add p).add q))))
    (hp : Pick (.row (.slice A m c) e size m xs) O R) (hv : xs[p + q]? = some v) : Pu P n wr fr O (.load t x) ty v :=
  Pu_loadR (by rw [← add_of_add]; exact hx) hp hv
theorem Stp_storeRF {t sz e size m c p q : Nat} {ag : Bool} {x y : Operand} {A : Option Addr} {xs xs' vs : List Value} {v : Value} {O' : List It} [hT : Ty P t sz ag] (hx : ev fr x = some (.pointer (some (((adr A).add p).add q)))) (hy : ev fr y = some v)
    (hu : Upd O (.row (.slice A m c) e size m xs) (.row (.slice A m c) e size m xs') O') (hvs : v.cells.toList = vs) (hl : vs.length = sz) (h1 : vs.all Value.oneCell' = true) (hp : p + q + sz ≤ xs.length) (h0 : 0 < sz) (hc : lay xs (p + q) vs = xs')
    (k : Kp undef O') : Stp P n wr fr O ⟨dst, .store t x y, ty, pos, af, g⟩ Kp := Stp_storeR (by rw [← add_of_add]; exact hx) hy hu hvs hl h1 hp h0 hc k
end
theorem ze_get (L : List ZE) (k : Nat) (z : ZE) (hk : L[k]? = some z) : (L.flatMap ZE.enc)[k * 2 + 1]? = some (.slice z.A z.z.eras.length z.c) := flat_get ZE.len L k z 1 _ hk rfl
theorem ze_set (L : List ZE) (k : Nat) (z : ZE) (A : Option Addr) (c : Nat) (hk : L[k]? = some z) : (L.flatMap ZE.enc).set (k * 2 + 1) (.slice A z.z.eras.length c) = (L.set k ⟨z.z, A, c⟩).flatMap ZE.enc := by
  induction L generalizing k with
  | nil => simp at hk
  | cons y L ih =>
    cases k with
    | zero =>
      simp only [List.getElem?_cons_zero, Option.some.injEq] at hk
      subst hk
      rfl
    | succ k =>
      rw [List.getElem?_cons_succ] at hk
      have := ih k hk
      rw [show (k + 1) * 2 + 1 = (k * 2 + 1) + 1 + 1 from by omega, List.set_cons_succ, List.flatMap_cons, List.flatMap_cons, ← this]
      rfl
attribute [local irreducible] W RL Does thenQ blockQ retQ Calls Pu Stp RD Qy Ay DoesIn

theorem cloneZ_spec (A : Option Addr) (c : Nat) (x : List ZE) (w : World) (hA : RdSl w A c ZE.enc 2 x) (hn : x.length ≤ 1000000) :
    Does Try.prog 88 [.slice A x.length c] w (fun v O => ∃ A c, v = .slice A x.length c ∧ O = [.row (.slice A x.length c) 56 2 x.length (x.flatMap ZE.enc)] ∧ (0 < x.length → A ≠ none)) := by
  refine Does_of_W Try.func88 rfl rfl rfl rfl ?_
  repeat (first | (apply RL_st; rfl; (apply Stp_buildSlice0; intro bk)) | refine walk ?_)
  refine W_cond rfl (fun h1 => ?_) (fun h1 => ?_)
  · obtain rfl := hA.none h1
    refine W_nil 56 2 ?_
    repeat (first | (apply RL_st; rfl; (apply Stp_buildSlice0; intro bk)) | refine walk ?_)
    exact ret_1 _ [.row (.slice none 0 0) 56 2 0 []] (.tmp rfl) (by first | exact .refl _ | focus repeat (first | exact SubO.nil | (apply SubO.cons; focus repeat' constructor))) ⟨none, 0, rfl, rfl, fun h => absurd h (by simp)⟩
  repeat (first | (apply RL_st0; (apply Stp_append0; rfl; rfl; (intro A' c'; (focus repeat' constructor)); (intro w' hw _; exact (hA.up hw).rd.raw ZE.len (by decide)); exact flat_len ZE.len x; exact all_flat oneZ x; (simp only [maxLen]; omega); omega; intro A' c' hc1 hc2 hc3)) | (apply RL_st; rfl; (first | (apply Stp_append0; rfl; rfl; (intro A' c'; (focus repeat' constructor)); (intro w' hw _; exact (hA.up hw).rd.raw ZE.len (by decide)); exact flat_len ZE.len x; exact all_flat oneZ x; (simp only [maxLen]; omega); omega; intro A' c' hc1 hc2 hc3) | (apply Stp_buildSlice0; intro bk))) | refine walk ?_)
  exact ret_1 _ _ (.tmp rfl) (.refl _) ⟨A', c', rfl, rfl, hc3⟩

set_option maxHeartbeats 4000000 in
theorem copyP_spec (Ar Az Al As : Option Addr) (cr cz cl cs : Nat) (a : DSource) (w : World) (hA : RdSource w Ar Az Al As cr cz cl cs a) (hn : Fits a) :
    Does Try.prog 61 [srcV Ar Az Al As cr cz cl cs a] w (NewSrc a) := by
  obtain ⟨hnr, hnz, hnl, hns, hne⟩ := hn
  obtain ⟨Zo, hZo, hZr, hZe⟩ := srcZe2 hA
  have hzl : a.zones.length = Zo.length := by rw [← hZo, List.length_map]
  refine Does_of_W Try.func61 rfl rfl rfl rfl ?_
  unfold srcV
  rw [hzl] at hnz ⊢
  repeat (first | (apply RL_st0; (apply Stp_call (h := fun w' hw _ => cloneZ_spec Az cz Zo w' (hZr.up hw) hnz); rfl; rintro v O' ⟨A2, c2, rfl, rfl, hA2⟩)) | (apply RL_st; rfl; (first | (apply Stp_call (h := fun w' hw _ => cloneZ_spec Az cz Zo w' (hZr.up hw) hnz); rfl; rintro v O' ⟨A2, c2, rfl, rfl, hA2⟩) | (apply Stp_boxNf; rfl; (focus repeat (first | exact Nf.nil | apply Nf.cons)); intro bk) | (apply Stp_alloc; intro bk))) | refine walk ?_ | (refine RD_G0w ?_; intro F; (apply Stp_call (h := fun w' hw _ => cloneZ_spec Az cz Zo w' (hZr.up hw) hnz); rfl; rintro v O' ⟨A2, c2, rfl, rfl, hA2⟩); refine ⟨_, EndsA, SubO.right _ _, ?_⟩) | (refine RD_Lw ?_; intro F; (first | (apply Stp_call (h := fun w' hw _ => cloneZ_spec Az cz Zo w' (hZr.up hw) hnz); rfl; rintro v O' ⟨A2, c2, rfl, rfl, hA2⟩) | (apply Stp_boxNf; rfl; (focus repeat (first | exact Nf.nil | apply Nf.cons)); intro bk) | (apply Stp_alloc; intro bk) | (apply Stp_storeNf; rfl; rfl; (focus repeat' constructor); (focus repeat (first | exact Nf.nil | apply Nf.cons)); rfl; rfl; rfl; (focus repeat' constructor)) | (apply Stp_pu; exact PuA)); refine ⟨_, EndsA, QFA, ?_⟩) | (apply RD_W; rfl; intro bk))
  rename_i b1
  generalize bk = b2
  refine W_nil 75 13 (W_toFact [] _ (ErasAt []) (.refl _) (fun _ _ q hq => by simp at hq) ?_)
  refine W_loopF [(1, _), (2, _), (3, _), (9, _)] [.blk b2 _ _, .blk b1 _ _] (fun g : CG => [(10, .int .i64 g.k)]) (fun g => [.fact g.S g.p, .row (.slice g.Ae g.me g.ce) 75 13 g.me g.xe, .row (.slice A2 Zo.length c2) 56 2 Zo.length ((g.Zs ++ Zo.drop g.k).flatMap ZE.enc)])
    (fun g => g.k ≤ Zo.length ∧ g.Zs.length = g.k ∧ g.Zs.map ZE.z = (Zo.take g.k).map ZE.z ∧ ∀ w', g.p w' → (It.row (.slice g.Ae g.me g.ce) 75 13 g.me g.xe).sat w' → ErasAt g.Zs w')
    (fun g => Zo.length - g.k) ⟨0, none, 0, 0, [], [], none, 0, 0, [], foot [], ErasAt []⟩ (by repeat (first | exact trivial | refine ⟨rfl, ?_⟩)) (.refl _) ⟨by simp, rfl, by simp, fun _ h _ => h⟩ ?_
  rintro ⟨k, _, _, _, _, Zs, Ae', ce', me, xe, S, p⟩ ⟨hk, hZl, hZz, hp⟩
  dsimp only at hk hZl hZz hp ⊢
  refine W_toFact [.fact S p, .row (.slice Ae' me ce') 75 13 me xe] _ (ErasAt Zs) (.cons .here (.cons .here (.refl _))) (fun w' hi => hp w' (fact_at (S := S) (hi (.fact S p) (by simp))) (hi _ (List.mem_cons_of_mem _ List.mem_cons_self))) ?_
  repeat (first | (apply RL_st; rfl; (first | (apply Stp_boxNf; rfl; (focus repeat (first | exact Nf.nil | apply Nf.cons)); intro bk) | (apply Stp_alloc; intro bk))) | refine walk ?_ | (refine RD_Lw ?_; intro F; (first | (apply Stp_boxNf; rfl; (focus repeat (first | exact Nf.nil | apply Nf.cons)); intro bk) | (apply Stp_alloc; intro bk) | (apply Stp_storeNf; rfl; rfl; (focus repeat' constructor); (focus repeat (first | exact Nf.nil | apply Nf.cons)); rfl; rfl; rfl; (focus repeat' constructor)) | (apply Stp_pu; exact PuA)); refine ⟨_, EndsA, QFA, ?_⟩) | (apply RD_W; rfl; intro bk))
  refine W_cond rfl (fun hc => ?_) (fun hc => ?_)
  · simp only [decide_eq_true_eq, Int.ofNat_lt] at hc
    have hAn := hA2 (by omega)
    have hEr := hZe _ (List.getElem_mem hc)
    have hlen : Zo[k].z.eras.length ≤ 1000000 := hne _ (by rw [← hZo]; exact List.mem_map.2 ⟨_, List.getElem_mem hc, rfl⟩)
    have hget : (Zs ++ Zo.drop k)[k]? = some Zo[k] := by rw [List.getElem?_append_right (by omega), hZl, Nat.sub_self, List.getElem?_drop, Nat.add_zero, List.getElem?_eq_getElem hc]
    have hset : ∀ q : ZE, (Zs ++ Zo.drop k).set k q = (Zs ++ [q]) ++ Zo.drop (k + 1) := fun q => by
      rw [List.set_append_right _ _ (by omega), hZl, Nat.sub_self, drop_cons hc, List.set_cons_zero]
      simp
    have htk : (Zo.take (k + 1)).map ZE.z = (Zo.take k).map ZE.z ++ [Zo[k].z] := by rw [← List.take_append_getElem hc, List.map_append]; rfl
    have hLl : (Zs ++ Zo.drop k).length = Zo.length := by rw [List.length_append, List.length_drop]; omega
    generalize Zo[k] = z at *
    have hx1 : ((Zs ++ Zo.drop k).flatMap ZE.enc)[((k : Int)).toNat * 2 + 1]? = some (.slice z.A z.z.eras.length z.c) := by
      rw [show ((k : Int)).toNat * 2 + 1 = k * 2 + 1 from by omega]; exact ze_get _ k z hget
    repeat (first | (apply RL_pu; rfl; (first | (apply Pu_indexAddr; rfl; rfl; omega; omega; exact hAn) | (apply Pu_loadRF; rfl; (focus repeat' constructor); exact hx1))) | (apply RL_st0; (first | (apply Stp_call (h := fun w' hw _ => cloneE_spec z.A z.c z.z.eras w' (hEr.up hw) hlen); rfl; rintro v O' ⟨Ae2, ce2, rfl, rfl⟩) | (apply Stp_storeRF; rfl; rfl; (focus repeat' constructor); rfl; rfl; rfl; (rw [flat_len ZE.len, hLl]; omega); decide; rfl))) | (apply RL_st; rfl; (first | (apply Stp_call (h := fun w' hw _ => cloneE_spec z.A z.c z.z.eras w' (hEr.up hw) hlen); rfl; rintro v O' ⟨Ae2, ce2, rfl, rfl⟩) | (apply Stp_storeRF; rfl; rfl; (focus repeat' constructor); rfl; rfl; rfl; (rw [flat_len ZE.len, hLl]; omega); decide; rfl) | (apply Stp_boxNf; rfl; (focus repeat (first | exact Nf.nil | apply Nf.cons)); intro bk) | (apply Stp_alloc; intro bk))) | (apply RD_Q; rfl; rfl; decide +kernel; rfl; rfl; (first | (apply Qy_y; rfl; (first | (apply Pu_indexAddr; rfl; rfl; omega; omega; exact hAn) | (apply Pu_loadRF; rfl; (focus repeat' constructor); exact hx1))) | exact QyA)) | refine walk1 ?_ | (refine RD_G0w ?_; intro F; (apply Stp_call (h := fun w' hw _ => cloneE_spec z.A z.c z.z.eras w' (hEr.up hw) hlen); rfl; rintro v O' ⟨Ae2, ce2, rfl, rfl⟩); refine ⟨_, EndsA, SubO.right _ _, ?_⟩) | (refine RD_Lw ?_; intro F; (first | (apply Stp_call (h := fun w' hw _ => cloneE_spec z.A z.c z.z.eras w' (hEr.up hw) hlen); rfl; rintro v O' ⟨Ae2, ce2, rfl, rfl⟩) | (apply Stp_storeRF; rfl; rfl; (focus repeat' constructor); rfl; rfl; rfl; (rw [flat_len ZE.len, hLl]; omega); decide; rfl) | (apply Stp_boxNf; rfl; (focus repeat (first | exact Nf.nil | apply Nf.cons)); intro bk) | (apply Stp_alloc; intro bk) | (apply Stp_storeNf; rfl; rfl; (focus repeat' constructor); (focus repeat (first | exact Nf.nil | apply Nf.cons)); rfl; rfl; rfl; (focus repeat' constructor)) | (apply Stp_pu; first | (apply Pu_indexAddr; rfl; rfl; omega; omega; exact hAn) | (apply Pu_loadRF; rfl; (focus repeat' constructor); exact hx1) | exact PuA)); refine ⟨_, EndsA, (by repeat (first | exact QF.nil | (apply QF.mk; rfl; rfl; decide +kernel; (first | (apply Qy_y; rfl; (first | (apply Pu_indexAddr; rfl; rfl; omega; omega; exact hAn) | (apply Pu_loadRF; rfl; (focus repeat' constructor); exact hx1))) | exact QyA)))), ?_⟩) | (apply RD_W; rfl; intro bk))
    have hfin : lay ((Zs ++ Zo.drop k).flatMap ZE.enc) (((k : Int)).toNat * 2 + 1) (Value.slice Ae2 z.z.eras.length ce2).cells.toList = ((Zs ++ [(⟨z.z, Ae2, ce2⟩ : ZE)]) ++ Zo.drop (k + 1)).flatMap ZE.enc := by
      rw [show ((k : Int)).toNat * 2 + 1 = k * 2 + 1 from by omega, ← hset, ← ze_set _ k z Ae2 ce2 hget]
      rfl
    exact ⟨⟨k + 1, none, 0, 0, [], Zs ++ [⟨z.z, Ae2, ce2⟩], Ae2, ce2, z.z.eras.length, z.z.eras.flatMap DEra.enc, _, ErasAt Zs⟩, (by first | omega | (dsimp only; omega)), ⟨(by first | omega | (dsimp only; omega)), by simp [hZl], by rw [List.map_append, hZz]; exact htk.symm, fun w' h1 h2 => ErasAt.snoc h1 (rowRd DEra.len h2)⟩, (by repeat (first | exact trivial | refine ⟨rfl, ?_⟩)), by rw [← hfin]; exact (by first | exact .refl _ | focus repeat (first | exact SubO.nil | (apply SubO.cons; focus repeat' constructor)))⟩
  simp only [decide_eq_false_iff_not, Int.ofNat_lt] at hc
  have hkl : k = Zo.length := by omega
  subst hkl
  rw [List.drop_length, List.append_nil]
  rw [List.take_length, hZo] at hZz
  generalize foot _ = S2
  rw [← hZl]
  repeat (first | (apply RL_st0; (first | (apply Stp_call (h := fun w' hw _ => cloneR_spec Ar cr a.rules w' (hA.r.up hw) hnr); rfl; rintro v O' ⟨A3, c3, rfl, rfl⟩) | (apply Stp_call (h := fun w' hw _ => cloneL_spec Al cl a.links w' (hA.l.up hw) hnl); rfl; rintro v O' ⟨A4, c4, rfl, rfl⟩) | (apply Stp_call (h := fun w' hw _ => cloneS_spec As cs a.shifts w' (hA.s.up hw) hns); rfl; rintro v O' ⟨A5, c5, rfl, rfl⟩))) | (apply RL_st; rfl; (first | (apply Stp_call (h := fun w' hw _ => cloneR_spec Ar cr a.rules w' (hA.r.up hw) hnr); rfl; rintro v O' ⟨A3, c3, rfl, rfl⟩) | (apply Stp_call (h := fun w' hw _ => cloneL_spec Al cl a.links w' (hA.l.up hw) hnl); rfl; rintro v O' ⟨A4, c4, rfl, rfl⟩) | (apply Stp_call (h := fun w' hw _ => cloneS_spec As cs a.shifts w' (hA.s.up hw) hns); rfl; rintro v O' ⟨A5, c5, rfl, rfl⟩) | (apply Stp_boxNf; rfl; (focus repeat (first | exact Nf.nil | apply Nf.cons)); intro bk) | (apply Stp_alloc; intro bk))) | refine walk ?_ | (refine RD_G0w ?_; intro F; (first | (apply Stp_call (h := fun w' hw _ => cloneR_spec Ar cr a.rules w' (hA.r.up hw) hnr); rfl; rintro v O' ⟨A3, c3, rfl, rfl⟩) | (apply Stp_call (h := fun w' hw _ => cloneL_spec Al cl a.links w' (hA.l.up hw) hnl); rfl; rintro v O' ⟨A4, c4, rfl, rfl⟩) | (apply Stp_call (h := fun w' hw _ => cloneS_spec As cs a.shifts w' (hA.s.up hw) hns); rfl; rintro v O' ⟨A5, c5, rfl, rfl⟩)); refine ⟨_, EndsA, SubO.right _ _, ?_⟩) | (refine RD_Lw ?_; intro F; (first | (apply Stp_call (h := fun w' hw _ => cloneR_spec Ar cr a.rules w' (hA.r.up hw) hnr); rfl; rintro v O' ⟨A3, c3, rfl, rfl⟩) | (apply Stp_call (h := fun w' hw _ => cloneL_spec Al cl a.links w' (hA.l.up hw) hnl); rfl; rintro v O' ⟨A4, c4, rfl, rfl⟩) | (apply Stp_call (h := fun w' hw _ => cloneS_spec As cs a.shifts w' (hA.s.up hw) hns); rfl; rintro v O' ⟨A5, c5, rfl, rfl⟩) | (apply Stp_boxNf; rfl; (focus repeat (first | exact Nf.nil | apply Nf.cons)); intro bk) | (apply Stp_alloc; intro bk) | (apply Stp_storeNf; rfl; rfl; (focus repeat' constructor); (focus repeat (first | exact Nf.nil | apply Nf.cons)); rfl; rfl; rfl; (focus repeat' constructor)) | (apply Stp_pu; exact PuA)); refine ⟨_, EndsA, QFA, ?_⟩) | (apply RD_W; rfl; intro bk))
  have hl : Zs.length = a.zones.length := by rw [← hZz, List.length_map]
  exact ret_1 _ [rowR A3 c3 a.rules, rowZ A2 c2 Zs, rowL A4 c4 a.links, rowS A5 c5 a.shifts, .fact S2 (ErasAt Zs)] (.cellB rfl (by (focus repeat' constructor)) rfl rfl) (by first | exact .refl _ | focus repeat (first | exact SubO.nil | (apply SubO.cons; focus repeat' constructor))) ⟨A3, c3, A2, c2, A4, c4, A5, c5, Zs, S2, by rw [srcV, ← hl]; rfl, hZz, rfl⟩
end Go.Proofs.Ytfhjfpikngcknaa
