/- Contract: analemmalaw25.AcceptMany. -/
import Derived.Test.YtbffjibfcgcoeaaGreatDoorQ37
import Derived.Test.YtbffjibfcgcoeaaGreatDoorQ39
set_option linter.unusedVariables false
set_option linter.unusedSimpArgs false
namespace Go.Proofs.YtbffjibfcgcoeaaGreatDoor
open Go Go.RowKit Go.Wk
attribute [local irreducible] W RL Does thenQ blockQ retQ Calls Pu Stp RD Qy Ay DoesIn
theorem mRs_len (n : Nat) : (mRs n).length = n := by simp [mRs]
theorem mXl_len {n : Nat} (h : 1 ≤ n) : (mXl n).length = n := by simp [mXl, mXs]; omega
theorem letters_spec (n : Nat) (hn : n ≤ 100) (w : World) : Does Tryz.prog 27 ([] ++ [.int .i64 n] ++ []) w (fun v O => ∃ A c be bz, v = srcV A (some ⟨bz, 0, none⟩) none none c 1 0 0 (lettersD n) ∧
    O = [.blk bz [.string ⟨#[90]⟩, .slice (some ⟨be, 0, none⟩) 2 2] 55, .blk be ([mE1, mE2].flatMap DEra.enc) 60, .row (.slice A (mRs n).length c) 51 11 (mRs n).length ((mRs n).flatMap DRule.enc)]) :=
  (many1_spec n hn w).monoH fun v O base w' hR hH => by
    obtain ⟨A, c, be, bz, rfl, rfl⟩ := hR
    refine ⟨_, ⟨A, c, be, bz, ?_, ?_⟩, hH⟩
    · simp only [srcV, lettersD, exS, mRs_len]; rfl
    · rw [mRs_len]; rfl
theorem letters_rd {w' : World} {n c be bz : Nat} {A : Option Addr} (h1 : (It.blk bz [.string ⟨#[90]⟩, .slice (some ⟨be, 0, none⟩) 2 2] 55).sat w') (h2 : (It.blk be ([mE1, mE2].flatMap DEra.enc) 60).sat w') (h3 : (It.row (.slice A (mRs n).length c) 51 11 (mRs n).length ((mRs n).flatMap DRule.enc)).sat w') :
    RdSource w' A (some ⟨bz, 0, none⟩) none none c 1 0 0 (lettersD n) :=
  ex_rd (rowRd DRule.len h3) h1 (litRd (l := [mE1, mE2]) DEra.len (Nat.le_refl 2) (by decide) h2) (nilRd _ _ _) (nilRd _ _ _)
theorem offsets_spec (n : Nat) (hn : n ≤ 100) (h1 : 1 ≤ n) (w : World) : Does Tryz.prog 28 ([] ++ [.int .i64 n] ++ []) w (fun v O => ∃ A c br bz, v = srcV (some ⟨br, 0, none⟩) (some ⟨bz, 0, none⟩) none none 3 1 0 0 (offsetsD n) ∧
    O = [.blk bz [.string ⟨#[90]⟩, .slice A (mXl n).length c] 55, .blk br ([nR 5 3600, nR 8 7200, nR 10 0].flatMap DRule.enc) 51, .row (.slice A (mXl n).length c) 60 13 (mXl n).length ((mXl n).flatMap DEra.enc)]) :=
  (many2_spec n hn h1 w).monoH fun v O base w' hR hH => by
    obtain ⟨A, c, br, bz, rfl, rfl⟩ := hR
    refine ⟨_, ⟨A, c, br, bz, ?_, ?_⟩, hH⟩
    · simp only [srcV, offsetsD, exS]; rfl
    · rw [mXl_len h1, mXc_eq h1]; rfl
theorem offsets_rd {w' : World} {n c br bz : Nat} {A : Option Addr} (h1 : (It.blk bz [.string ⟨#[90]⟩, .slice A (mXl n).length c] 55).sat w') (h2 : (It.blk br ([nR 5 3600, nR 8 7200, nR 10 0].flatMap DRule.enc) 51).sat w') (h3 : (It.row (.slice A (mXl n).length c) 60 13 (mXl n).length ((mXl n).flatMap DEra.enc)).sat w') :
    RdSource w' (some ⟨br, 0, none⟩) (some ⟨bz, 0, none⟩) none none 3 1 0 0 (offsetsD n) :=
  ex_rd (litRd (l := [nR 5 3600, nR 8 7200, nR 10 0]) DRule.len (Nat.le_refl 3) (by decide) h2) h1 (rowRd DEra.len h3) (nilRd _ _ _) (nilRd _ _ _)
theorem accT (Ar Az Al As : Option Addr) (cr cz cl cs : Nat) (a : DSource) (w : World) (h : AccOk w Ar Az Al As cr cz cl cs a) (hf : accD a = none) :
    Does Tryz.prog 12 [srcV Ar Az Al As cr cz cl cs a] w (fun v O => v = .tuple #[.agg #[.int .i64 0, .int .i64 0, .int .i64 0], .int .i64 0] ∧ O = []) := by
  have := accS h
  rwa [hf] at this
theorem made_enc {α : Type} (enc : α → List Value) {sz : Nat} (hlen : ∀ a, (enc a).length = sz) (h0 : 0 < sz) (d : α) (N : Nat) : (madeCells (enc d).toArray (N * sz)).toList = (List.replicate N d).flatMap enc := by
  have hfl := flat_len hlen (List.replicate N d)
  rw [List.length_replicate] at hfl
  apply List.ext_getElem?
  intro i
  by_cases hi : i < N * sz
  · have hk : i / sz < N := Nat.div_lt_of_lt_mul (by rw [Nat.mul_comm]; exact hi)
    have hj : i % sz < (enc d).length := by rw [hlen]; exact Nat.mod_lt _ h0
    have h1 := flat_get hlen (List.replicate N d) (i / sz) d (i % sz) ((enc d)[i % sz]) (by rw [List.getElem?_replicate, if_pos hk]) (List.getElem?_eq_getElem hj)
    rw [Nat.mul_comm, Nat.div_add_mod] at h1
    rw [h1]
    have hj2 : i % (enc d).length < (enc d).length := by rw [hlen]; rw [hlen] at hj; exact hj
    simp only [madeCells, Array.getElem?_toList, Array.getElem?_map, List.size_toArray]
    rw [Array.getElem?_eq_getElem (by simpa using hi)]
    simp only [Array.getElem_range, Option.map_some, Option.some.injEq]
    rw [getElem!_pos _ _ (by simpa using hj2), List.getElem_toArray]
    congr 1
    rw [hlen]
  · rw [List.getElem?_eq_none (l := (madeCells (enc d).toArray (N * sz)).toList) (by rw [Array.length_toList, size_madeCells]; omega), List.getElem?_eq_none (by rw [hfl]; omega)]
def cells5 : List Value := (List.replicate 1001 dL0).flatMap DLink.enc
def cells6 : List Value := (List.replicate 61 dE0).flatMap DEra.enc
theorem z1001 : (madeCells ([.string ByteArray.empty, .string ByteArray.empty] : List Value).toArray (1001 * 2)).toList = cells5 := made_enc DLink.enc DLink.len (by decide) dL0 1001
theorem z61 : (madeCells (dE0.enc).toArray (61 * 13)).toList = cells6 := made_enc DEra.enc DEra.len (by decide) dE0 61
theorem reps_rd {α : Type} {enc : α → List Value} {sz t : Nat} (hlen : ∀ a, (enc a).length = sz) {w' : World} {b N : Nat} {d : α} (h : (It.row (.slice (some ⟨b, 0, none⟩) N N) t sz N ((List.replicate N d).flatMap enc)).sat w') : RdSl w' (some ⟨b, 0, none⟩) N enc sz (List.replicate N d) :=
  rowRd (l := List.replicate N d) (e := t) hlen (by rw [List.length_replicate]; exact h)
theorem acc5 {w w' : World} {b : Nat} (hL : LibW w) (hG : Glob w) (hw : Bel w.heap.size w w') (h : (It.row (.slice (some ⟨b, 0, none⟩) 1001 1001) 92 2 1001 cells5).sat w') : AccOk w' none none (some ⟨b, 0, none⟩) none 0 0 1001 0 linksM :=
  accOk hL hG hw o5' ⟨nilRd _ _ _, Nat.le_refl _, Nat.zero_le _, fun _ _ h => (by rw [show linksM.zones = [] from rfl, List.getElem?_nil] at h; cases h), reps_rd DLink.len h, nilRd _ _ _⟩
theorem fault5 (b : Nat) (w : World) (h : AccOk w none none (some ⟨b, 0, none⟩) none 0 0 1001 0 linksM) :
    Does Tryz.prog 24 [.agg #[.slice none 0 0, .slice none 0 0, .slice (some ⟨b, 0, none⟩) 1001 1001, .slice none 0 0], .agg #[.int .i64 3, .int .i64 1000, .int .i64 0], .int .i64 7] w (fun v O => v = .bool true ∧ O = []) := by
  have := faultT none none (some ⟨b, 0, none⟩) none 0 0 1001 0 linksM ⟨3, 1000, 0⟩ 7 w h m5
  have hl : linksM.links.length = 1001 := List.length_replicate
  unfold srcV at this
  rw [hl] at this
  exact this
theorem ex_reps {w' : World} {b bz N : Nat} (h1 : (It.blk bz [.string ⟨#[90]⟩, .slice (some ⟨b, 0, none⟩) N N] 55).sat w') (h : (It.row (.slice (some ⟨b, 0, none⟩) N N) 60 13 N ((List.replicate N dE0).flatMap DEra.enc)).sat w') :
    RdSource w' none (some ⟨bz, 0, none⟩) none none 0 1 0 0 (exS [] (List.replicate N dE0) [] []) := ex_rd (ce := N) (nilRd _ _ _) (by rw [List.length_replicate]; exact h1) (reps_rd DEra.len h) (nilRd _ _ _) (nilRd _ _ _)
theorem acc6 {w w' : World} {b bz : Nat} (hL : LibW w) (hG : Glob w) (hw : Bel w.heap.size w w') (h1 : (It.blk bz [.string ⟨#[90]⟩, .slice (some ⟨b, 0, none⟩) 61 61] 55).sat w') (h : (It.row (.slice (some ⟨b, 0, none⟩) 61 61) 60 13 61 cells6).sat w') : AccOk w' none (some ⟨bz, 0, none⟩) none none 0 1 0 0 erasM :=
  accOk hL hG hw o6' (ex_reps h1 h)
theorem fault6 (bz : Nat) (w : World) (h : AccOk w none (some ⟨bz, 0, none⟩) none none 0 1 0 0 erasM) :
    Does Tryz.prog 24 [.agg #[.slice none 0 0, .slice (some ⟨bz, 0, none⟩) 1 1, .slice none 0 0, .slice none 0 0], .agg #[.int .i64 2, .int .i64 0, .int .i64 60], .int .i64 7] w (fun v O => v = .bool true ∧ O = []) :=
  faultT none (some ⟨bz, 0, none⟩) none none 0 1 0 0 erasM ⟨2, 0, 60⟩ 7 w h m6
attribute [local irreducible] cells5 cells6 linksM erasM
set_option maxHeartbeats 4000000 in
theorem many25_spec (w : World) (hL : LibW w) (hG : Glob w) : Does Tryz.prog 7 [] w (fun v O => v = .bool true ∧ O = []) := by
  refine Does_of_W Tryz.func7 rfl rfl rfl rfl ?_
  repeat (first | (apply RL_st0; (apply Stp_callV (h := fun w' hw _ => letters_spec 62 (by decide) w'); rfl; rfl; rintro v O' ⟨A1, c1, be1, bz1, rfl, rfl⟩)) | (apply RL_st; rfl; (first | (apply Stp_callV (h := fun w' hw _ => letters_spec 62 (by decide) w'); rfl; rfl; rintro v O' ⟨A1, c1, be1, bz1, rfl, rfl⟩) | (apply Stp_alloc; intro bk) | (apply Stp_buildSliceC; rfl; rfl; rfl; rfl; (focus repeat (first | exact Nf.nil | apply Nf.cons)); intro bk))) | refine walk ?_)
  repeat (first | (apply RL_st0; (apply Stp_call (h := fun w' hw hO => accT A1 (some ⟨bz1, 0, none⟩) none none c1 1 0 0 (lettersD 62) w' (accOk hL hG hw o1' (letters_rd (hO.of (A := .blk bz1 _ _) (by (focus repeat' constructor))) (hO.of (A := .blk be1 _ _) (by (focus repeat' constructor))) (hO.of (A := .row (.slice A1 _ c1) _ _ _ _) (by (focus repeat' constructor))))) m1); rfl; rintro v O' ⟨rfl, rfl⟩)) | (apply RL_st; rfl; (first | (apply Stp_call (h := fun w' hw hO => accT A1 (some ⟨bz1, 0, none⟩) none none c1 1 0 0 (lettersD 62) w' (accOk hL hG hw o1' (letters_rd (hO.of (A := .blk bz1 _ _) (by (focus repeat' constructor))) (hO.of (A := .blk be1 _ _) (by (focus repeat' constructor))) (hO.of (A := .row (.slice A1 _ c1) _ _ _ _) (by (focus repeat' constructor))))) m1); rfl; rintro v O' ⟨rfl, rfl⟩) | (apply Stp_alloc; intro bk) | (apply Stp_buildSliceC; rfl; rfl; rfl; rfl; (focus repeat (first | exact Nf.nil | apply Nf.cons)); intro bk))) | refine walk ?_)
  repeat (first | (apply RL_st0; (apply Stp_callV (h := fun w' hw _ => letters_spec 63 (by decide) w'); rfl; rfl; rintro v O' ⟨A2, c2, be2, bz2, rfl, rfl⟩)) | (apply RL_st; rfl; (first | (apply Stp_callV (h := fun w' hw _ => letters_spec 63 (by decide) w'); rfl; rfl; rintro v O' ⟨A2, c2, be2, bz2, rfl, rfl⟩) | (apply Stp_alloc; intro bk) | (apply Stp_buildSliceC; rfl; rfl; rfl; rfl; (focus repeat (first | exact Nf.nil | apply Nf.cons)); intro bk))) | refine walk ?_)
  repeat (first | (apply RL_st0; (apply Stp_call (h := fun w' hw hO => faultT A2 (some ⟨bz2, 0, none⟩) none none c2 1 0 0 (lettersD 63) ⟨2, 0, 0⟩ 7 w' (accOk hL hG hw o2' (letters_rd (hO.of (A := .blk bz2 _ _) (by (focus repeat' constructor))) (hO.of (A := .blk be2 _ _) (by (focus repeat' constructor))) (hO.of (A := .row (.slice A2 _ c2) _ _ _ _) (by (focus repeat' constructor))))) m2); rfl; rintro v O' ⟨rfl, rfl⟩)) | (apply RL_st; rfl; (first | (apply Stp_call (h := fun w' hw hO => faultT A2 (some ⟨bz2, 0, none⟩) none none c2 1 0 0 (lettersD 63) ⟨2, 0, 0⟩ 7 w' (accOk hL hG hw o2' (letters_rd (hO.of (A := .blk bz2 _ _) (by (focus repeat' constructor))) (hO.of (A := .blk be2 _ _) (by (focus repeat' constructor))) (hO.of (A := .row (.slice A2 _ c2) _ _ _ _) (by (focus repeat' constructor))))) m2); rfl; rintro v O' ⟨rfl, rfl⟩) | (apply Stp_alloc; intro bk) | (apply Stp_buildSliceC; rfl; rfl; rfl; rfl; (focus repeat (first | exact Nf.nil | apply Nf.cons)); intro bk))) | refine walk ?_)
  repeat (first | (apply RL_st0; (apply Stp_callV (h := fun w' hw _ => offsets_spec 40 (by decide) (by decide) w'); rfl; rfl; rintro v O' ⟨A3, c3, br3, bz3, rfl, rfl⟩)) | (apply RL_st; rfl; (first | (apply Stp_callV (h := fun w' hw _ => offsets_spec 40 (by decide) (by decide) w'); rfl; rfl; rintro v O' ⟨A3, c3, br3, bz3, rfl, rfl⟩) | (apply Stp_alloc; intro bk) | (apply Stp_buildSliceC; rfl; rfl; rfl; rfl; (focus repeat (first | exact Nf.nil | apply Nf.cons)); intro bk))) | refine walk ?_)
  repeat (first | (apply RL_st0; (apply Stp_call (h := fun w' hw hO => accT (some ⟨br3, 0, none⟩) (some ⟨bz3, 0, none⟩) none none 3 1 0 0 (offsetsD 40) w' (accOk hL hG hw o3' (offsets_rd (hO.of (A := .blk bz3 _ _) (by (focus repeat' constructor))) (hO.of (A := .blk br3 _ _) (by (focus repeat' constructor))) (hO.of (A := .row (.slice A3 _ c3) _ _ _ _) (by (focus repeat' constructor))))) m3); rfl; rintro v O' ⟨rfl, rfl⟩)) | (apply RL_st; rfl; (first | (apply Stp_call (h := fun w' hw hO => accT (some ⟨br3, 0, none⟩) (some ⟨bz3, 0, none⟩) none none 3 1 0 0 (offsetsD 40) w' (accOk hL hG hw o3' (offsets_rd (hO.of (A := .blk bz3 _ _) (by (focus repeat' constructor))) (hO.of (A := .blk br3 _ _) (by (focus repeat' constructor))) (hO.of (A := .row (.slice A3 _ c3) _ _ _ _) (by (focus repeat' constructor))))) m3); rfl; rintro v O' ⟨rfl, rfl⟩) | (apply Stp_alloc; intro bk) | (apply Stp_buildSliceC; rfl; rfl; rfl; rfl; (focus repeat (first | exact Nf.nil | apply Nf.cons)); intro bk))) | refine walk ?_)
  repeat (first | (apply RL_st0; (apply Stp_callV (h := fun w' hw _ => offsets_spec 41 (by decide) (by decide) w'); rfl; rfl; rintro v O' ⟨A4, c4, br4, bz4, rfl, rfl⟩)) | (apply RL_st; rfl; (first | (apply Stp_callV (h := fun w' hw _ => offsets_spec 41 (by decide) (by decide) w'); rfl; rfl; rintro v O' ⟨A4, c4, br4, bz4, rfl, rfl⟩) | (apply Stp_alloc; intro bk) | (apply Stp_buildSliceC; rfl; rfl; rfl; rfl; (focus repeat (first | exact Nf.nil | apply Nf.cons)); intro bk))) | refine walk ?_)
  repeat (first | (apply RL_st0; (apply Stp_call (h := fun w' hw hO => faultT (some ⟨br4, 0, none⟩) (some ⟨bz4, 0, none⟩) none none 3 1 0 0 (offsetsD 41) ⟨2, 0, 0⟩ 7 w' (accOk hL hG hw o4' (offsets_rd (hO.of (A := .blk bz4 _ _) (by (focus repeat' constructor))) (hO.of (A := .blk br4 _ _) (by (focus repeat' constructor))) (hO.of (A := .row (.slice A4 _ c4) _ _ _ _) (by (focus repeat' constructor))))) m4); rfl; rintro v O' ⟨rfl, rfl⟩)) | (apply RL_st; rfl; (first | (apply Stp_call (h := fun w' hw hO => faultT (some ⟨br4, 0, none⟩) (some ⟨bz4, 0, none⟩) none none 3 1 0 0 (offsetsD 41) ⟨2, 0, 0⟩ 7 w' (accOk hL hG hw o4' (offsets_rd (hO.of (A := .blk bz4 _ _) (by (focus repeat' constructor))) (hO.of (A := .blk br4 _ _) (by (focus repeat' constructor))) (hO.of (A := .row (.slice A4 _ c4) _ _ _ _) (by (focus repeat' constructor))))) m4); rfl; rintro v O' ⟨rfl, rfl⟩) | (apply Stp_alloc; intro bk) | (apply Stp_buildSliceC; rfl; rfl; rfl; rfl; (focus repeat (first | exact Nf.nil | apply Nf.cons)); intro bk))) | refine walk ?_)
  repeat (first | (apply RL_st0; (apply Stp_makeF (N := 1001) (z := [.string ByteArray.empty, .string ByteArray.empty]); rfl; rfl; decide; decide; decide; exact z1001; intro b5)) | (apply RL_st; rfl; (first | (apply Stp_makeF (N := 1001) (z := [.string ByteArray.empty, .string ByteArray.empty]); rfl; rfl; decide; decide; decide; exact z1001; intro b5) | (apply Stp_alloc; intro bk) | (apply Stp_buildSliceC; rfl; rfl; rfl; rfl; (focus repeat (first | exact Nf.nil | apply Nf.cons)); intro bk))) | refine walk ?_)
  repeat (first | (apply RL_st0; (apply Stp_makeF (N := 61) (z := dE0.enc); rfl; rfl; decide; decide; decide; exact z61; intro b6)) | (apply RL_st; rfl; (first | (apply Stp_makeF (N := 61) (z := dE0.enc); rfl; rfl; decide; decide; decide; exact z61; intro b6) | (apply Stp_alloc; intro bk) | (apply Stp_buildSliceC; rfl; rfl; rfl; rfl; (focus repeat (first | exact Nf.nil | apply Nf.cons)); intro bk))) | refine walk ?_)
  repeat (first | (apply RL_st0; (apply Stp_call (h := fun w' hw hO => fault5 b5 w' (acc5 hL hG hw (hO.of (A := .row (.slice (some ⟨b5, 0, none⟩) _ _) _ _ _ _) (by (focus repeat' constructor))))); rfl; rintro v O' ⟨rfl, rfl⟩)) | (apply RL_st; rfl; (first | (apply Stp_call (h := fun w' hw hO => fault5 b5 w' (acc5 hL hG hw (hO.of (A := .row (.slice (some ⟨b5, 0, none⟩) _ _) _ _ _ _) (by (focus repeat' constructor))))); rfl; rintro v O' ⟨rfl, rfl⟩) | (apply Stp_alloc; intro bk) | (apply Stp_buildSliceC; rfl; rfl; rfl; rfl; (focus repeat (first | exact Nf.nil | apply Nf.cons)); intro bk))) | refine walk ?_)
  rename_i b7
  repeat (first | (apply RL_st0; (apply Stp_call (h := fun w' hw hO => fault6 b7 w' (acc6 hL hG hw (hO.of (A := .blk b7 _ _) (by (focus repeat' constructor))) (hO.of (A := .row (.slice (some ⟨b6, 0, none⟩) _ _) _ _ _ _) (by (focus repeat' constructor))))); rfl; rintro v O' ⟨rfl, rfl⟩)) | (apply RL_st; rfl; (first | (apply Stp_call (h := fun w' hw hO => fault6 b7 w' (acc6 hL hG hw (hO.of (A := .blk b7 _ _) (by (focus repeat' constructor))) (hO.of (A := .row (.slice (some ⟨b6, 0, none⟩) _ _) _ _ _ _) (by (focus repeat' constructor))))); rfl; rintro v O' ⟨rfl, rfl⟩) | (apply Stp_alloc; intro bk) | (apply Stp_buildSliceC; rfl; rfl; rfl; rfl; (focus repeat (first | exact Nf.nil | apply Nf.cons)); intro bk))) | refine walk ?_)
  repeat (first | (apply RL_st0; (apply Stp_call (h := fun w' hw _ => works25_spec w' (hL.up hw) (hG.up hw)); rfl; rintro v O' ⟨rfl, rfl⟩)) | (apply RL_st; rfl; (first | (apply Stp_call (h := fun w' hw _ => works25_spec w' (hL.up hw) (hG.up hw)); rfl; rintro v O' ⟨rfl, rfl⟩) | (apply Stp_alloc; intro bk) | (apply Stp_buildSliceC; rfl; rfl; rfl; rfl; (focus repeat (first | exact Nf.nil | apply Nf.cons)); intro bk))) | refine walk ?_)
  exact ret_1 _ [] (.tmp rfl) .nil ⟨rfl, rfl⟩
end Go.Proofs.YtbffjibfcgcoeaaGreatDoor
