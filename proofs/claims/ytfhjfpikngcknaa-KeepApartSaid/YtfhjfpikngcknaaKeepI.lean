/- Contracts: keep.Without, keep.Zones. -/
import Derived.Test.YtfhjfpikngcknaaKeepH
import Derived.Test.YtfhjfpikngcknaaKeepD
namespace Go.Proofs.Ytfhjfpikngcknaa
open Go Go.RowKit Go.Wk
attribute [local irreducible] W RL Does thenQ blockQ retQ Calls Pu Stp RD Qy Ay DoesIn

theorem copyR2_spec (Ar Az Al As : Option Addr) (cr cz cl cs : Nat) (a : DSource) (w : World) (hA : RdSource w Ar Az Al As cr cz cl cs a) (hn : Fits a) :
    Does Try.prog 61 [srcV Ar Az Al As cr cz cl cs a] w (fun v O => ∃ Ar cr Az cz Al cl As cs Zs, v = .agg #[.slice Ar a.rules.length cr, .slice Az Zs.length cz, .slice Al a.links.length cl, .slice As a.shifts.length cs] ∧ Zs.map ZE.z = a.zones ∧ O = [rowR Ar cr a.rules, rowZ Az cz Zs, rowL Al cl a.links, rowS As cs a.shifts] ++ Zs.map eraRow) := by
  refine (copyR_spec Ar Az Al As cr cz cl cs a w hA hn).mono ?_
  rintro v O ⟨Ar, cr, Az, cz, Al, cl, As, cs, Zs, rfl, hz, rfl⟩
  exact ⟨Ar, cr, Az, cz, Al, cl, As, cs, Zs, by rw [srcV, ← hz, List.length_map], hz, rfl⟩
theorem cnt_at {w : World} {b bm : Nat} {mp : List (ByteArray × Value)} {names : List ByteArray} {t : TypeId} (h1 : (It.blk b [.map (some bm)] t).sat w) (h2 : (It.mp bm mp).sat w) (h3 : CntB mp names) : CntAt w ⟨b, 0, none⟩ names := ⟨bm, mp, by rw [blk_cell h1]; rfl, h2, h3⟩
theorem filter_z (Zs : List ZE) (p : DZone → Bool) : (Zs.filter fun q => p q.z).map ZE.z = (Zs.map ZE.z).filter p := by
  induction Zs with
  | nil => rfl
  | cons q Zs ih =>
    by_cases h : p q.z
    · simp [h, ih]
    · simp [h, ih]

set_option maxHeartbeats 4000000 in
theorem withoutR_spec (Ar Az Al As : Option Addr) (cr cz cl cs : Nat) (a : DSource) (An : Option Addr) (cn : Nat) (names : List ByteArray) (w : World) (hA : RdSource w Ar Az Al As cr cz cl cs a) (hN : RdSl w An cn strEnc 1 names) (hn : Fits a) (hnn : names.length ≤ 1000000) :
    Does Try.prog 25 [srcV Ar Az Al As cr cz cl cs a, .slice An names.length cn] w (NewSrcR (withoutD a names)) := by
  refine Does_of_W Try.func25 rfl rfl rfl rfl ?_
  repeat (first | ((apply RL_st; rfl; apply Stp_call (h := fun w' hw _ => copyR2_spec Ar Az Al As cr cz cl cs a w' (hA.up hw) hn); rfl; rintro v O' ⟨R1, r1, Z1, z1, L1, l1, H1, h1, Zs1, rfl, hZ1, rfl⟩); refine RL_tail ?_) | (apply RL_st0; (apply Stp_call (h := fun w' hw _ => counted_spec An cn names w' (hN.up hw) hnn); rfl; rintro v O' ⟨bm, mp, rfl, rfl, hmp⟩)) | (apply RL_st; rfl; (first | (apply Stp_call (h := fun w' hw _ => counted_spec An cn names w' (hN.up hw) hnn); rfl; rintro v O' ⟨bm, mp, rfl, rfl, hmp⟩) | (apply Stp_boxNf; rfl; (focus repeat (first | exact Nf.nil | apply Nf.cons)); intro bk) | (apply Stp_alloc; intro bk))) | refine walk ?_)
  have hzl : Zs1.length ≤ 1000000 := by rw [← List.length_map (f := ZE.z), hZ1]; exact hn.z
  generalize bk = b5
  repeat (first | ((apply RL_st; rfl; apply Stp_call (h := fun w' hw hO => chosenZ_spec Z1 z1 Zs1 68 [] [.pointer (some ⟨b5, 0, none⟩)] (fun q => !memB q.z.name names) w' (rowRd ZE.len (hO.of (by (focus repeat' constructor)))) hzl (fun r w2 hw2 => fnW1_spec r ⟨b5, 0, none⟩ names w2 ((cnt_at (hO.of (A := .blk b5 _ _) (by (focus repeat' constructor))) (hO.of (A := .mp bm mp) (by (focus repeat' constructor))) hmp).up hw2))); rfl; rintro v O' ⟨Z2, z2, rfl, rfl⟩); refine RL_filtT (l := [_, _, _, _, _, _, _, _, _]) (fun q => !memB q.z.name names) ?_) | (apply RL_st0; (apply Stp_call (h := fun w' hw hO => chosenL_spec L1 l1 a.links 70 [] [.pointer (some ⟨b5, 0, none⟩)] (fun q => !memB q.name names) w' (rowRd DLink.len (hO.of (by (focus repeat' constructor)))) hn.l (fun r w2 hw2 => fnW2_spec r ⟨b5, 0, none⟩ names w2 ((cnt_at (hO.of (A := .blk b5 _ _) (by (focus repeat' constructor))) (hO.of (A := .mp bm mp) (by (focus repeat' constructor))) hmp).up hw2))); rfl; rintro v O' ⟨L2, l2, rfl, rfl⟩)) | (apply RL_st; rfl; (first | (apply Stp_call (h := fun w' hw hO => chosenL_spec L1 l1 a.links 70 [] [.pointer (some ⟨b5, 0, none⟩)] (fun q => !memB q.name names) w' (rowRd DLink.len (hO.of (by (focus repeat' constructor)))) hn.l (fun r w2 hw2 => fnW2_spec r ⟨b5, 0, none⟩ names w2 ((cnt_at (hO.of (A := .blk b5 _ _) (by (focus repeat' constructor))) (hO.of (A := .mp bm mp) (by (focus repeat' constructor))) hmp).up hw2))); rfl; rintro v O' ⟨L2, l2, rfl, rfl⟩) | (apply Stp_boxNf; rfl; (focus repeat (first | exact Nf.nil | apply Nf.cons)); intro bk) | (apply Stp_alloc; intro bk))) | refine walk ?_)
  have hz : (Zs1.filter fun q => !memB q.z.name names).map ZE.z = (withoutD a names).zones := by rw [filter_z Zs1 (fun z => !memB z.name names), hZ1]; rfl
  have hl : (Zs1.filter fun q => !memB q.z.name names).length = (withoutD a names).zones.length := by rw [← hz, List.length_map]
  exact ret_1 _ (rowR R1 r1 a.rules :: rowZ Z2 z2 _ :: rowL L2 l2 _ :: rowS H1 h1 a.shifts :: (Zs1.filter fun q => !memB q.z.name names).map eraRow) (.cellB rfl (by (focus repeat' constructor)) rfl rfl) (by repeat (first | exact SubO.nil | (apply SubO.cons; (focus repeat' constructor)) | exact .refl _ | apply SubO.drop)) ⟨R1, r1, Z2, z2, L2, l2, H1, h1, _, by rw [srcV, ← hl]; rfl, hz, rfl⟩
theorem withoutP_spec (Ar Az Al As : Option Addr) (cr cz cl cs : Nat) (a : DSource) (An : Option Addr) (cn : Nat) (names : List ByteArray) (w : World) (hA : RdSource w Ar Az Al As cr cz cl cs a) (hN : RdSl w An cn strEnc 1 names) (hn : Fits a) (hnn : names.length ≤ 1000000) :
    Does Try.prog 25 [srcV Ar Az Al As cr cz cl cs a, .slice An names.length cn] w (NewSrc (withoutD a names)) := (withoutR_spec Ar Az Al As cr cz cl cs a An cn names w hA hN hn hnn).monoO fun _ _ h => newSrc_of h
end Go.Proofs.Ytfhjfpikngcknaa
