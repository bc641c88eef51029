/- Contract: printer.Copy. -/
import Derived.Test.YtfhjfpikngcknaaKeepG
namespace Go.Proofs.Ytfhjfpikngcknaa
open Go Go.RowKit Go.Wk
theorem zeOf2 {w : World} {A : Option Addr} : ∀ (zs : List DZone) (off : Nat), (∀ k z, zs[k]? = some z → A ≠ none ∧ ∃ cs, RdZone w z cs ∧ CellsAt w ((adr A).add ((off + k) * 2)) cs) →
    ∃ Zs : List ZE, Zs.map ZE.z = zs ∧ (∀ k q, Zs[k]? = some q → A ≠ none ∧ CellsAt w ((adr A).add ((off + k) * 2)) q.enc) ∧ ErasAt Zs w
  | [], _, _ => ⟨[], rfl, fun _ _ h => by simp at h, fun _ h => by simp at h⟩
  | z :: zs, off, h => by
    obtain ⟨h1, cs, ⟨A', c', h2, rfl⟩, h3⟩ := h 0 z rfl
    obtain ⟨Zs, h4, h5, h6⟩ := zeOf2 (A := A) zs (off + 1) fun k z' hz => by
      have := h (k + 1) z' (by simpa using hz)
      rwa [show off + (k + 1) = off + 1 + k from by omega] at this
    refine ⟨⟨z, A', c'⟩ :: Zs, by simp [h4], fun k q hq => ?_, fun q hq => ?_⟩
    · cases k with
      | zero =>
        simp only [List.getElem?_cons_zero, Option.some.injEq] at hq
        subst hq
        exact ⟨h1, h3⟩
      | succ k =>
        have := h5 k q (by simpa using hq)
        rwa [show off + 1 + k = off + (k + 1) from by omega] at this
    · rcases List.mem_cons.1 hq with rfl | hq
      · exact h2
      · exact h6 q hq
theorem srcZe2 {w : World} {Ar Az Al As : Option Addr} {cr cz cl cs : Nat} {s : DSource} (h : RdSource w Ar Az Al As cr cz cl cs s) : ∃ Zs : List ZE, Zs.map ZE.z = s.zones ∧ RdSl w Az cz ZE.enc 2 Zs ∧ ErasAt Zs w := by
  obtain ⟨Zs, h1, h2, h3⟩ := zeOf2 s.zones 0 (fun k z hz => by simpa using h.z k z hz)
  exact ⟨Zs, h1, ⟨by rw [← List.length_map (f := ZE.z), h1]; exact h.zle, h.zcap, fun k q hq => by simpa using h2 k q hq⟩, h3⟩

theorem ze_get (L : List ZE) (k : Nat) (z : ZE) (hk : L[k]? = some z) : (L.flatMap ZE.enc)[k * 2 + 1]? = some (.slice z.A z.z.eras.length z.c) := flat_get ZE.len L k z 1 _ hk rfl
theorem ze_set (L : List ZE) (k : Nat) (z : ZE) (A : Option Addr) (c : Nat) (hk : L[k]? = some z) : (L.flatMap ZE.enc).set (k * 2 + 1) (.slice A z.z.eras.length c) = (L.set k ⟨z.z, A, c⟩).flatMap ZE.enc := by
  induction L generalizing k with
  | nil => simp at hk
  | cons y L ih =>
    cases k with
    | zero =>
      simp only [List.getElem?_cons_zero, Option.some.injEq] at hk
      subst hk
      rfl
    | succ k =>
      rw [List.getElem?_cons_succ] at hk
      have := ih k hk
      rw [show (k + 1) * 2 + 1 = (k * 2 + 1) + 1 + 1 from by omega, List.set_cons_succ, List.flatMap_cons, List.flatMap_cons, ← this]
      rfl
attribute [local irreducible] W RL Does thenQ blockQ retQ Calls Pu Stp RD Qy Ay DoesIn

theorem cloneZ_spec (A : Option Addr) (c : Nat) (x : List ZE) (w : World) (hA : RdSl w A c ZE.enc 2 x) (hn : x.length ≤ 1000000) :
    Does Try.prog 88 [.slice A x.length c] w (fun v O => ∃ A c, v = .slice A x.length c ∧ O = [.row (.slice A x.length c) 56 2 x.length (x.flatMap ZE.enc)] ∧ (0 < x.length → A ≠ none)) := by
  refine Does_of_W Try.func88 rfl rfl rfl rfl ?_
  repeat (first | (apply RL_st; rfl; (apply Stp_buildSlice0; intro bk)) | refine walk ?_)
  refine W_cond rfl (fun h1 => ?_) (fun h1 => ?_)
  · obtain rfl := hA.none h1
    refine W_nil 56 2 ?_
    repeat (first | (apply RL_st; rfl; (apply Stp_buildSlice0; intro bk)) | refine walk ?_)
    exact ret_1 _ [.row (.slice none 0 0) 56 2 0 []] (.tmp rfl) (by first | exact .refl _ | focus repeat (first | exact SubO.nil | (apply SubO.cons; focus repeat' constructor))) ⟨none, 0, rfl, rfl, fun h => absurd h (by simp)⟩
  repeat (first | (apply RL_st0; (apply Stp_append0; rfl; rfl; (intro A' c'; (focus repeat' constructor)); (intro w' hw _; exact (hA.up hw).rd.raw ZE.len (by decide)); exact flat_len ZE.len x; exact all_flat oneZ x; (simp only [maxLen]; omega); omega; intro A' c' hc1 hc2 hc3)) | (apply RL_st; rfl; (first | (apply Stp_append0; rfl; rfl; (intro A' c'; (focus repeat' constructor)); (intro w' hw _; exact (hA.up hw).rd.raw ZE.len (by decide)); exact flat_len ZE.len x; exact all_flat oneZ x; (simp only [maxLen]; omega); omega; intro A' c' hc1 hc2 hc3) | (apply Stp_buildSlice0; intro bk))) | refine walk ?_)
  exact ret_1 _ _ (.tmp rfl) (.refl _) ⟨A', c', rfl, rfl, hc3⟩

structure CpG where
  k : Nat
  Zr : List ZE
set_option maxHeartbeats 4000000 in
theorem copyR_spec (Ar Az Al As : Option Addr) (cr cz cl cs : Nat) (a : DSource) (w : World) (hA : RdSource w Ar Az Al As cr cz cl cs a) (hn : Fits a) :
    Does Try.prog 61 [srcV Ar Az Al As cr cz cl cs a] w (NewSrcR a) := by
  obtain ⟨hnr, hnz, hnl, hns, hne⟩ := hn
  obtain ⟨Zo, hZo, hZr, hZe⟩ := srcZe2 hA
  have hzl : a.zones.length = Zo.length := by rw [← hZo, List.length_map]
  refine Does_of_W Try.func61 rfl rfl rfl rfl ?_
  unfold srcV
  rw [hzl] at hnz ⊢
  repeat (first | (apply RL_st0; (apply Stp_call (h := fun w' hw _ => cloneZ_spec Az cz Zo w' (hZr.up hw) hnz); rfl; rintro v O' ⟨A2, c2, rfl, rfl, hA2⟩)) | (apply RL_st; rfl; (first | (apply Stp_call (h := fun w' hw _ => cloneZ_spec Az cz Zo w' (hZr.up hw) hnz); rfl; rintro v O' ⟨A2, c2, rfl, rfl, hA2⟩) | (apply Stp_boxNf; rfl; (focus repeat (first | exact Nf.nil | apply Nf.cons)); intro bk) | (apply Stp_alloc; intro bk))) | refine walk ?_ | (refine RD_G0w ?_; intro F; (apply Stp_call (h := fun w' hw _ => cloneZ_spec Az cz Zo w' (hZr.up hw) hnz); rfl; rintro v O' ⟨A2, c2, rfl, rfl, hA2⟩); refine ⟨_, EndsA, SubO.right _ _, ?_⟩) | (refine RD_Lw ?_; intro F; (first | (apply Stp_call (h := fun w' hw _ => cloneZ_spec Az cz Zo w' (hZr.up hw) hnz); rfl; rintro v O' ⟨A2, c2, rfl, rfl, hA2⟩) | (apply Stp_boxNf; rfl; (focus repeat (first | exact Nf.nil | apply Nf.cons)); intro bk) | (apply Stp_alloc; intro bk) | (apply Stp_storeNf; rfl; rfl; (focus repeat' constructor); (focus repeat (first | exact Nf.nil | apply Nf.cons)); rfl; rfl; rfl; (focus repeat' constructor)) | (apply Stp_pu; exact PuA)); refine ⟨_, EndsA, QFA, ?_⟩) | (apply RD_W; rfl; intro bk))
  rename_i b1
  generalize bk = b2
  refine W_loop (fun g : CpG => [(10, .int .i64 g.k), (1, _), (2, _), (3, _), (9, _)]) (fun g => .row (.slice A2 Zo.length c2) 56 2 Zo.length ((g.Zr.reverse ++ Zo.drop g.k).flatMap ZE.enc) :: .blk b2 _ _ :: .blk b1 _ _ :: g.Zr.map eraRow)
    (fun g => g.k ≤ Zo.length ∧ g.Zr.length = g.k ∧ g.Zr.reverse.map ZE.z = (Zo.take g.k).map ZE.z) (fun g => Zo.length - g.k) ⟨0, []⟩ (by repeat (first | exact trivial | refine ⟨rfl, ?_⟩)) (by repeat (first | exact SubO.nil | (apply SubO.cons; (focus repeat' constructor)) | exact .refl _ | apply SubO.drop)) ⟨by simp, rfl, by simp⟩ ?_
  rintro ⟨k, Zr⟩ ⟨hk, hZl, hZz⟩
  dsimp only at hk hZl hZz ⊢
  rw [← List.length_reverse] at hZl
  obtain ⟨Zs, hZs⟩ : ∃ Zs, Zr.reverse = Zs := ⟨_, rfl⟩
  rw [hZs] at hZl hZz
  rw [hZs]
  generalize hT : Zr.map eraRow = T
  repeat (first | (apply RL_st; rfl; (first | (apply Stp_boxNf; rfl; (focus repeat (first | exact Nf.nil | apply Nf.cons)); intro bk) | (apply Stp_alloc; intro bk))) | refine walk ?_ | (refine RD_Lw ?_; intro F; (first | (apply Stp_boxNf; rfl; (focus repeat (first | exact Nf.nil | apply Nf.cons)); intro bk) | (apply Stp_alloc; intro bk) | (apply Stp_storeNf; rfl; rfl; (focus repeat' constructor); (focus repeat (first | exact Nf.nil | apply Nf.cons)); rfl; rfl; rfl; (focus repeat' constructor)) | (apply Stp_pu; exact PuA)); refine ⟨_, EndsA, QFA, ?_⟩) | (apply RD_W; rfl; intro bk))
  refine W_cond rfl (fun hc => ?_) (fun hc => ?_)
  · simp only [decide_eq_true_eq, Int.ofNat_lt] at hc
    have hAn := hA2 (by omega)
    have hEr := hZe _ (List.getElem_mem hc)
    have hlen : Zo[k].z.eras.length ≤ 1000000 := hne _ (by rw [← hZo]; exact List.mem_map.2 ⟨_, List.getElem_mem hc, rfl⟩)
    have hget : (Zs ++ Zo.drop k)[k]? = some Zo[k] := by rw [List.getElem?_append_right (by omega), hZl, Nat.sub_self, List.getElem?_drop, Nat.add_zero, List.getElem?_eq_getElem hc]
    have hset : ∀ q : ZE, (Zs ++ Zo.drop k).set k q = (Zs ++ [q]) ++ Zo.drop (k + 1) := fun q => by
      rw [List.set_append_right _ _ (by omega), hZl, Nat.sub_self, drop_cons hc, List.set_cons_zero]
      simp
    have htk : (Zo.take (k + 1)).map ZE.z = (Zo.take k).map ZE.z ++ [Zo[k].z] := by rw [← List.take_append_getElem hc, List.map_append]; rfl
    have hLl : (Zs ++ Zo.drop k).length = Zo.length := by rw [List.length_append, List.length_drop]; omega
    generalize Zo[k] = z at *
    have hx1 : ((Zs ++ Zo.drop k).flatMap ZE.enc)[((k : Int)).toNat * 2 + 1]? = some (.slice z.A z.z.eras.length z.c) := by
      rw [show ((k : Int)).toNat * 2 + 1 = k * 2 + 1 from by omega]; exact ze_get _ k z hget
    repeat (first | (apply RL_pu; rfl; (first | (apply Pu_indexAddr; rfl; rfl; omega; omega; exact hAn) | (apply Pu_loadRF; rfl; (focus repeat' constructor); exact hx1))) | (apply RL_st0; (first | (apply Stp_call (h := fun w' hw _ => cloneE_spec z.A z.c z.z.eras w' (hEr.up hw) hlen); rfl; rintro v O' ⟨Ae2, ce2, rfl, rfl⟩) | (apply Stp_storeRF; rfl; rfl; (focus repeat' constructor); rfl; rfl; rfl; (rw [flat_len ZE.len, hLl]; omega); decide; rfl))) | (apply RL_st; rfl; (first | (apply Stp_call (h := fun w' hw _ => cloneE_spec z.A z.c z.z.eras w' (hEr.up hw) hlen); rfl; rintro v O' ⟨Ae2, ce2, rfl, rfl⟩) | (apply Stp_storeRF; rfl; rfl; (focus repeat' constructor); rfl; rfl; rfl; (rw [flat_len ZE.len, hLl]; omega); decide; rfl) | (apply Stp_boxNf; rfl; (focus repeat (first | exact Nf.nil | apply Nf.cons)); intro bk) | (apply Stp_alloc; intro bk))) | (apply RD_Q; rfl; rfl; decide +kernel; rfl; rfl; (first | (apply Qy_y; rfl; (first | (apply Pu_indexAddr; rfl; rfl; omega; omega; exact hAn) | (apply Pu_loadRF; rfl; (focus repeat' constructor); exact hx1))) | exact QyA)) | refine walk1 ?_ | (refine RD_G0w ?_; intro F; (apply Stp_call (h := fun w' hw _ => cloneE_spec z.A z.c z.z.eras w' (hEr.up hw) hlen); rfl; rintro v O' ⟨Ae2, ce2, rfl, rfl⟩); refine ⟨_, EndsA, SubO.right _ _, ?_⟩) | (refine RD_Lw ?_; intro F; (first | (apply Stp_call (h := fun w' hw _ => cloneE_spec z.A z.c z.z.eras w' (hEr.up hw) hlen); rfl; rintro v O' ⟨Ae2, ce2, rfl, rfl⟩) | (apply Stp_storeRF; rfl; rfl; (focus repeat' constructor); rfl; rfl; rfl; (rw [flat_len ZE.len, hLl]; omega); decide; rfl) | (apply Stp_boxNf; rfl; (focus repeat (first | exact Nf.nil | apply Nf.cons)); intro bk) | (apply Stp_alloc; intro bk) | (apply Stp_storeNf; rfl; rfl; (focus repeat' constructor); (focus repeat (first | exact Nf.nil | apply Nf.cons)); rfl; rfl; rfl; (focus repeat' constructor)) | (apply Stp_pu; first | (apply Pu_indexAddr; rfl; rfl; omega; omega; exact hAn) | (apply Pu_loadRF; rfl; (focus repeat' constructor); exact hx1) | exact PuA)); refine ⟨_, EndsA, (by repeat (first | exact QF.nil | (apply QF.mk; rfl; rfl; decide +kernel; (first | (apply Qy_y; rfl; (first | (apply Pu_indexAddr; rfl; rfl; omega; omega; exact hAn) | (apply Pu_loadRF; rfl; (focus repeat' constructor); exact hx1))) | exact QyA)))), ?_⟩) | (apply RD_W; rfl; intro bk))
    have hfin : lay ((Zs ++ Zo.drop k).flatMap ZE.enc) (((k : Int)).toNat * 2 + 1) (Value.slice Ae2 z.z.eras.length ce2).cells.toList = ((Zs ++ [(⟨z.z, Ae2, ce2⟩ : ZE)]) ++ Zo.drop (k + 1)).flatMap ZE.enc := by
      rw [show ((k : Int)).toNat * 2 + 1 = k * 2 + 1 from by omega, ← hset, ← ze_set _ k z Ae2 ce2 hget]
      rfl
    subst hT
    have hrev : (⟨z.z, Ae2, ce2⟩ :: Zr : List ZE).reverse = Zs ++ [⟨z.z, Ae2, ce2⟩] := by rw [List.reverse_cons, hZs]
    exact ⟨⟨k + 1, ⟨z.z, Ae2, ce2⟩ :: Zr⟩, (by first | omega | (dsimp only; omega)), ⟨(by first | omega | (dsimp only; omega)), by rw [← List.length_reverse, hrev]; simp [hZl], by rw [hrev, List.map_append, hZz]; exact htk.symm⟩, (by repeat (first | exact trivial | refine ⟨rfl, ?_⟩)), by rw [hrev, ← hfin]; exact (by repeat (first | exact SubO.nil | (apply SubO.cons; (focus repeat' constructor)) | exact .refl _ | apply SubO.drop))⟩
  simp only [decide_eq_false_iff_not, Int.ofNat_lt] at hc
  have hkl : k = Zo.length := by omega
  subst hkl
  rw [List.drop_length, List.append_nil]
  rw [List.take_length, hZo] at hZz
  subst hT
  refine W_perm _ (SubO.permT (l := [_, _, _]) (.refl _) ((List.reverse_perm Zr).symm.map eraRow)) ?_
  rw [hZs]
  rw [← hZl]
  repeat (first | (apply RL_st0; (first | (apply Stp_call (h := fun w' hw _ => cloneR_spec Ar cr a.rules w' (hA.r.up hw) hnr); rfl; rintro v O' ⟨A3, c3, rfl, rfl⟩) | (apply Stp_call (h := fun w' hw _ => cloneL_spec Al cl a.links w' (hA.l.up hw) hnl); rfl; rintro v O' ⟨A4, c4, rfl, rfl⟩) | (apply Stp_call (h := fun w' hw _ => cloneS_spec As cs a.shifts w' (hA.s.up hw) hns); rfl; rintro v O' ⟨A5, c5, rfl, rfl⟩))) | (apply RL_st; rfl; (first | (apply Stp_call (h := fun w' hw _ => cloneR_spec Ar cr a.rules w' (hA.r.up hw) hnr); rfl; rintro v O' ⟨A3, c3, rfl, rfl⟩) | (apply Stp_call (h := fun w' hw _ => cloneL_spec Al cl a.links w' (hA.l.up hw) hnl); rfl; rintro v O' ⟨A4, c4, rfl, rfl⟩) | (apply Stp_call (h := fun w' hw _ => cloneS_spec As cs a.shifts w' (hA.s.up hw) hns); rfl; rintro v O' ⟨A5, c5, rfl, rfl⟩) | (apply Stp_boxNf; rfl; (focus repeat (first | exact Nf.nil | apply Nf.cons)); intro bk) | (apply Stp_alloc; intro bk))) | refine walk ?_ | (refine RD_G0w ?_; intro F; (first | (apply Stp_call (h := fun w' hw _ => cloneR_spec Ar cr a.rules w' (hA.r.up hw) hnr); rfl; rintro v O' ⟨A3, c3, rfl, rfl⟩) | (apply Stp_call (h := fun w' hw _ => cloneL_spec Al cl a.links w' (hA.l.up hw) hnl); rfl; rintro v O' ⟨A4, c4, rfl, rfl⟩) | (apply Stp_call (h := fun w' hw _ => cloneS_spec As cs a.shifts w' (hA.s.up hw) hns); rfl; rintro v O' ⟨A5, c5, rfl, rfl⟩)); refine ⟨_, EndsA, SubO.right _ _, ?_⟩) | (refine RD_Lw ?_; intro F; (first | (apply Stp_call (h := fun w' hw _ => cloneR_spec Ar cr a.rules w' (hA.r.up hw) hnr); rfl; rintro v O' ⟨A3, c3, rfl, rfl⟩) | (apply Stp_call (h := fun w' hw _ => cloneL_spec Al cl a.links w' (hA.l.up hw) hnl); rfl; rintro v O' ⟨A4, c4, rfl, rfl⟩) | (apply Stp_call (h := fun w' hw _ => cloneS_spec As cs a.shifts w' (hA.s.up hw) hns); rfl; rintro v O' ⟨A5, c5, rfl, rfl⟩) | (apply Stp_boxNf; rfl; (focus repeat (first | exact Nf.nil | apply Nf.cons)); intro bk) | (apply Stp_alloc; intro bk) | (apply Stp_storeNf; rfl; rfl; (focus repeat' constructor); (focus repeat (first | exact Nf.nil | apply Nf.cons)); rfl; rfl; rfl; (focus repeat' constructor)) | (apply Stp_pu; exact PuA)); refine ⟨_, EndsA, QFA, ?_⟩) | (apply RD_W; rfl; intro bk))
  have hl : Zs.length = a.zones.length := by rw [← hZz, List.length_map]
  exact ret_1 _ (rowR A3 c3 a.rules :: rowZ A2 c2 Zs :: rowL A4 c4 a.links :: rowS A5 c5 a.shifts :: Zs.map eraRow) (.cellB rfl (by (focus repeat' constructor)) rfl rfl) (by repeat (first | exact SubO.nil | (apply SubO.cons; (focus repeat' constructor)) | exact .refl _ | apply SubO.drop)) ⟨A3, c3, A2, c2, A4, c4, A5, c5, Zs, by rw [srcV, ← hl]; rfl, hZz, rfl⟩
theorem copyP_spec (Ar Az Al As : Option Addr) (cr cz cl cs : Nat) (a : DSource) (w : World) (hA : RdSource w Ar Az Al As cr cz cl cs a) (hn : Fits a) :
    Does Try.prog 61 [srcV Ar Az Al As cr cz cl cs a] w (NewSrc a) := (copyR_spec Ar Az Al As cr cz cl cs a w hA hn).monoO fun _ _ h => newSrc_of h
end Go.Proofs.Ytfhjfpikngcknaa
