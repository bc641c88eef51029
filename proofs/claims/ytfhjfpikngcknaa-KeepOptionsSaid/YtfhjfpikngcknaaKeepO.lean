/- Contract: analemmalaw33.KeepOptions. -/
import Derived.Test.YtfhjfpikngcknaaLawO
namespace Go.Wk
open Go Go.RowKit
section
variable {P : Program} {n : Nat} {wr : World} {fr : Fr} {O : List It} {ty : TypeId}
theorem Pu_add8 {t t' : TypeId} {x y : Operand} {i j : Int} (hx : ev fr x = some (.int .u8 i)) (hy : ev fr y = some (.int .u8 j)) (h : 0 ≤ i + j ∧ i + j ≤ 255) : Pu P n wr fr O (.binOp .add t x y t') ty (.int .u8 (i + j)) := by
  have := Pu_addW (P := P) (n := n) (wr := wr) (O := O) (ty := ty) (t := t) (t' := t') hx hy
  rwa [IntWalk.u8_in _ h] at this
end
end Go.Wk
namespace Go.Proofs.Ytfhjfpikngcknaa
open Go Go.RowKit Go.Wk
attribute [local irreducible] W RL Does thenQ blockQ retQ Calls Pu Stp RD Qy Ay DoesIn made25 someD namesP

theorem repN_succ (c : Nat) (l : List ByteArray) : repN (c + 1) l = repN c l ++ l := by
  unfold repN
  rw [List.replicate_succ', List.flatten_append]
  simp
theorem repN_len (c : Nat) (l : List ByteArray) : (repN c l).length = c * l.length := by
  induction c with
  | zero => simp [repN]
  | succ c ih => rw [repN_succ, List.length_append, ih, Nat.add_mul, Nat.one_mul]

set_option maxHeartbeats 8000000 in
theorem keepOptions_spec (As Al : Option Addr) (cs c : Nat) (d : DDr) (bits often : Int) (w : World) (hS : RdSets w As cs d.sets) (hL : RdSl w Al c byEnc 1 d.L) (hr : ∀ x ∈ d.L, inR .u8 x) (hrs : ∀ l ∈ d.sets, ∀ x ∈ l, inR .u8 x) (hz : inR .u8 d.zones) (hl : inR .u8 d.links) (hof : inR .u8 often) :
    Does Try.prog 8 [dr25V As Al cs c d, .int .u8 bits, .int .u8 often] w (fun v O => v = .bool true ∧ O = []) := by
  rw [inR_u8] at hof
  have hzn : (made25 d).zones.length ≤ 3 := by rw [made25_nz]; exact nz_le d
  have hsl : (someD (made25 d) bits).length ≤ 4 := by
    have := pickZ_len bits (made25 d).zones 0
    rw [someD, List.length_cons]
    omega
  refine Does_of_W Try.func8 rfl rfl rfl rfl ?_
  repeat (first | ((apply RL_pu; rfl; apply Pu_add8; rfl; rfl; omega)) | (apply RL_st0; (apply Stp_call (h := fun w' hw _ => made25N_spec As Al cs c d w' (hS.up hw) (hL.up hw) hr hrs hz hl); rfl; rintro v O' ⟨R1, r1, Z1, z1, L1, l1, H1, h1, Zs1, S1, rfl, hZ1, rfl⟩)) | (apply RL_st; rfl; (first | (apply Stp_call (h := fun w' hw _ => made25N_spec As Al cs c d w' (hS.up hw) (hL.up hw) hr hrs hz hl); rfl; rintro v O' ⟨R1, r1, Z1, z1, L1, l1, H1, h1, Zs1, S1, rfl, hZ1, rfl⟩) | (apply Stp_boxNf; rfl; (focus repeat (first | exact Nf.nil | apply Nf.cons)); intro bk) | (apply Stp_alloc; intro bk))) | refine walk ?_)
  generalize bk = b7
  obtain ⟨C, hC⟩ : ∃ C : Nat, 1 + often % 3 = (C : Int) := ⟨(1 + often % 3).toNat, by omega⟩
  rw [hC]
  have hC1 : 1 ≤ C := by omega
  have hC2 : C ≤ 3 := by omega
  obtain ⟨a1, a2, a3, a4, a5, a6⟩ := lawO d bits C hC1 hC2
  have hfits := made25_fits d
  generalize made25 d = s at *
  refine W_nil 9 1 ?_
  refine W_loopF [(1, .int .u8 bits), (7, .pointer (some ⟨b7, 0, none⟩)), (17, .int .u8 C)] [.blk b7 [.slice R1 s.rules.length r1, .slice Z1 s.zones.length z1, .slice L1 s.links.length l1, .slice H1 s.shifts.length h1] 27, rowR R1 r1 s.rules, rowZ Z1 z1 Zs1, rowL L1 l1 s.links, rowS H1 h1 s.shifts, .fact S1 (ErasAt Zs1)] (fun g : RG => [(18, .int .u8 g.k), (8, .slice g.A g.m g.c)]) (fun g => [.row (.slice g.A g.m g.c) 9 1 g.m g.xs]) (fun g => g.k ≤ C ∧ g.m = (repN g.k (someD s bits)).length ∧ g.xs = (repN g.k (someD s bits)).flatMap strEnc) (fun g => C - g.k) ⟨0, none, 0, 0, []⟩ (by repeat (first | exact trivial | refine ⟨rfl, ?_⟩)) (by first | exact .refl _ | focus repeat (first | exact SubO.nil | (apply SubO.cons; focus repeat' constructor))) ⟨Nat.zero_le _, by simp [repN], by simp [repN]⟩ ?_
  rintro ⟨k, A2, c2, m2, x2⟩ ⟨hk, hm, hx⟩
  dsimp only at hk hm hx ⊢
  have hml : m2 ≤ 12 := by
    rw [hm, repN_len]
    have := Nat.mul_le_mul (show k ≤ 3 by omega) hsl
    omega
  repeat (first | (apply RL_st; rfl; (first | (apply Stp_boxNf; rfl; (focus repeat (first | exact Nf.nil | apply Nf.cons)); intro bk) | (apply Stp_alloc; intro bk))) | refine walk ?_)
  refine W_cond rfl (fun h => ?_) (fun h => ?_)
  · have hk2 : k < C := by simpa using h
    repeat (first | ((apply RL_pu; rfl; apply Pu_add8; rfl; rfl; omega)) | (apply RL_st0; (first | (apply Stp_call (h := fun w' _ hO => some_spec R1 Z1 L1 H1 r1 z1 l1 h1 s bits w' (src_rd hZ1 (hO.of (by (focus repeat' constructor))) (hO.of (by (focus repeat' constructor))) (hO.of (by (focus repeat' constructor))) (hO.of (by (focus repeat' constructor))) (hO.of (A := .fact S1 (ErasAt Zs1)) (by (focus repeat' constructor)))) (by omega)); rfl; rintro v O' ⟨A3, c3, rfl, rfl⟩) | (apply Stp_append; rfl; rfl; (intro A' c'; (focus repeat' constructor)); (intro w' _ hO; exact rowRaw (hO.of (A := .row (.slice A3 _ c3) _ _ _ _) (by (focus repeat' constructor)))); exact flat_len strEnc.len _; exact all_flat oneS _; (simp only [maxLen]; omega); omega; intro A' c' hc1 hc2 hc3))) | (apply RL_st; rfl; (first | (apply Stp_call (h := fun w' _ hO => some_spec R1 Z1 L1 H1 r1 z1 l1 h1 s bits w' (src_rd hZ1 (hO.of (by (focus repeat' constructor))) (hO.of (by (focus repeat' constructor))) (hO.of (by (focus repeat' constructor))) (hO.of (by (focus repeat' constructor))) (hO.of (A := .fact S1 (ErasAt Zs1)) (by (focus repeat' constructor)))) (by omega)); rfl; rintro v O' ⟨A3, c3, rfl, rfl⟩) | (apply Stp_append; rfl; rfl; (intro A' c'; (focus repeat' constructor)); (intro w' _ hO; exact rowRaw (hO.of (A := .row (.slice A3 _ c3) _ _ _ _) (by (focus repeat' constructor)))); exact flat_len strEnc.len _; exact all_flat oneS _; (simp only [maxLen]; omega); omega; intro A' c' hc1 hc2 hc3) | (apply Stp_boxNf; rfl; (focus repeat (first | exact Nf.nil | apply Nf.cons)); intro bk) | (apply Stp_alloc; intro bk))) | refine walk ?_)
    exact ⟨⟨k + 1, A', c', m2 + (someD s bits).length, x2 ++ (someD s bits).flatMap strEnc⟩, (by first | omega | (dsimp only; omega)), ⟨(by first | omega | (dsimp only; omega)), by rw [repN_succ, List.length_append, hm], by rw [repN_succ, List.flatMap_append, hx]⟩, (by repeat (first | exact trivial | refine ⟨rfl, ?_⟩)), (by first | exact .refl _ | focus repeat (first | exact SubO.nil | (apply SubO.cons; focus repeat' constructor)))⟩
  have hkC : k = C := by simp only [decide_eq_false_iff_not, Int.ofNat_lt] at h; omega
  subst hkC
  generalize hlst : repN k (someD s bits) = l at *
  subst hm hx
  repeat (first | (apply RL_st0; (first | (apply Stp_call (h := fun w' _ hO => names_spec33 R1 Z1 L1 H1 r1 z1 l1 h1 s A2 c2 ⟨true, true, l⟩ w' (src_rd hZ1 (hO.of (by (focus repeat' constructor))) (hO.of (by (focus repeat' constructor))) (hO.of (by (focus repeat' constructor))) (hO.of (by (focus repeat' constructor))) (hO.of (A := .fact S1 (ErasAt Zs1)) (by (focus repeat' constructor)))) (rowRd strEnc.len (hO.of (A := .row (.slice A2 _ c2) _ _ _ _) (by (focus repeat' constructor)))) (by omega) (by show l.length ≤ 1000000; omega)); rfl; rintro v O' ⟨N1, n1, rfl, rfl⟩) | (apply Stp_call (h := fun w' _ hO => names_spec33 R1 Z1 L1 H1 r1 z1 l1 h1 s A2 c2 ⟨true, false, l⟩ w' (src_rd hZ1 (hO.of (by (focus repeat' constructor))) (hO.of (by (focus repeat' constructor))) (hO.of (by (focus repeat' constructor))) (hO.of (by (focus repeat' constructor))) (hO.of (A := .fact S1 (ErasAt Zs1)) (by (focus repeat' constructor)))) (rowRd strEnc.len (hO.of (A := .row (.slice A2 _ c2) _ _ _ _) (by (focus repeat' constructor)))) (by omega) (by show l.length ≤ 1000000; omega)); rfl; rintro v O' ⟨N2, n2, rfl, rfl⟩))) | (apply RL_st; rfl; (first | (apply Stp_call (h := fun w' _ hO => names_spec33 R1 Z1 L1 H1 r1 z1 l1 h1 s A2 c2 ⟨true, true, l⟩ w' (src_rd hZ1 (hO.of (by (focus repeat' constructor))) (hO.of (by (focus repeat' constructor))) (hO.of (by (focus repeat' constructor))) (hO.of (by (focus repeat' constructor))) (hO.of (A := .fact S1 (ErasAt Zs1)) (by (focus repeat' constructor)))) (rowRd strEnc.len (hO.of (A := .row (.slice A2 _ c2) _ _ _ _) (by (focus repeat' constructor)))) (by omega) (by show l.length ≤ 1000000; omega)); rfl; rintro v O' ⟨N1, n1, rfl, rfl⟩) | (apply Stp_call (h := fun w' _ hO => names_spec33 R1 Z1 L1 H1 r1 z1 l1 h1 s A2 c2 ⟨true, false, l⟩ w' (src_rd hZ1 (hO.of (by (focus repeat' constructor))) (hO.of (by (focus repeat' constructor))) (hO.of (by (focus repeat' constructor))) (hO.of (by (focus repeat' constructor))) (hO.of (A := .fact S1 (ErasAt Zs1)) (by (focus repeat' constructor)))) (rowRd strEnc.len (hO.of (A := .row (.slice A2 _ c2) _ _ _ _) (by (focus repeat' constructor)))) (by omega) (by show l.length ≤ 1000000; omega)); rfl; rintro v O' ⟨N2, n2, rfl, rfl⟩) | (apply Stp_boxNf; rfl; (focus repeat (first | exact Nf.nil | apply Nf.cons)); intro bk) | (apply Stp_alloc; intro bk))) | refine walk ?_)
  have a7 : namesP s ⟨false, true, l⟩ = [] := by simp [namesP]
  generalize namesP s ⟨true, true, l⟩ = P1 at *
  generalize namesP s ⟨true, false, l⟩ = P2 at *
  refine RL_split 40 rfl (fun h => absurd h (by simp [a1])) (fun _ => ?_)
  repeat (first | (apply RL_st0; (apply Stp_call (h := fun w' _ hO => some_spec R1 Z1 L1 H1 r1 z1 l1 h1 s bits w' (src_rd hZ1 (hO.of (by (focus repeat' constructor))) (hO.of (by (focus repeat' constructor))) (hO.of (by (focus repeat' constructor))) (hO.of (by (focus repeat' constructor))) (hO.of (A := .fact S1 (ErasAt Zs1)) (by (focus repeat' constructor)))) (by omega)); rfl; rintro v O' ⟨A3, c3, rfl, rfl⟩)) | (apply RL_st; rfl; (first | (apply Stp_call (h := fun w' _ hO => some_spec R1 Z1 L1 H1 r1 z1 l1 h1 s bits w' (src_rd hZ1 (hO.of (by (focus repeat' constructor))) (hO.of (by (focus repeat' constructor))) (hO.of (by (focus repeat' constructor))) (hO.of (by (focus repeat' constructor))) (hO.of (A := .fact S1 (ErasAt Zs1)) (by (focus repeat' constructor)))) (by omega)); rfl; rintro v O' ⟨A3, c3, rfl, rfl⟩) | (apply Stp_boxNf; rfl; (focus repeat (first | exact Nf.nil | apply Nf.cons)); intro bk) | (apply Stp_alloc; intro bk))) | refine walk ?_)
  refine RL_split 50 rfl (fun h => absurd h (by simp only [← a2]; simp)) (fun _ => ?_)
  repeat (first | (apply RL_st0; (first | (apply Stp_call (h := fun w' _ hO => isSorted_spec N1 n1 P1 w' (rowRd strEnc.len (hO.of (A := .row (.slice N1 _ n1) _ _ _ _) (by (focus repeat' constructor)))) a3); rfl; rintro v O' ⟨rfl, rfl⟩) | (apply Stp_call (h := fun w' _ hO => isSorted_spec N2 n2 P2 w' (rowRd strEnc.len (hO.of (A := .row (.slice N2 _ n2) _ _ _ _) (by (focus repeat' constructor)))) a4); rfl; rintro v O' ⟨rfl, rfl⟩))) | (apply RL_st; rfl; (first | (apply Stp_call (h := fun w' _ hO => isSorted_spec N1 n1 P1 w' (rowRd strEnc.len (hO.of (A := .row (.slice N1 _ n1) _ _ _ _) (by (focus repeat' constructor)))) a3); rfl; rintro v O' ⟨rfl, rfl⟩) | (apply Stp_call (h := fun w' _ hO => isSorted_spec N2 n2 P2 w' (rowRd strEnc.len (hO.of (A := .row (.slice N2 _ n2) _ _ _ _) (by (focus repeat' constructor)))) a4); rfl; rintro v O' ⟨rfl, rfl⟩) | (apply Stp_boxNf; rfl; (focus repeat (first | exact Nf.nil | apply Nf.cons)); intro bk) | (apply Stp_alloc; intro bk))) | refine walk ?_)
  refine W_loopF [(7, .pointer (some ⟨b7, 0, none⟩)), (8, .slice A2 l.length c2), (9, .slice N1 P1.length n1), (60, .slice N2 P2.length n2), (61, .int .i64 P2.length)] [.row (.slice N2 P2.length n2) 9 1 P2.length (P2.flatMap strEnc), .row (.slice N1 P1.length n1) 9 1 P1.length (P1.flatMap strEnc), .row (.slice A2 l.length c2) 9 1 l.length (l.flatMap strEnc), .blk b7 [.slice R1 s.rules.length r1, .slice Z1 s.zones.length z1, .slice L1 s.links.length l1, .slice H1 s.shifts.length h1] 27, rowR R1 r1 s.rules, rowZ Z1 z1 Zs1, rowL L1 l1 s.links, rowS H1 h1 s.shifts, .fact S1 (ErasAt Zs1)] (fun g : Nat => [(62, .int .i64 g)]) (fun _ => []) (fun g => g ≤ P2.length) (fun g => P2.length - g) 0 (by repeat (first | exact trivial | refine ⟨rfl, ?_⟩)) (by first | exact .refl _ | focus repeat (first | exact SubO.nil | (apply SubO.cons; focus repeat' constructor))) (Nat.zero_le _) ?_
  intro j hj
  repeat (first | (apply RL_st; rfl; (first | (apply Stp_boxNf; rfl; (focus repeat (first | exact Nf.nil | apply Nf.cons)); intro bk) | (apply Stp_alloc; intro bk))) | refine walk ?_)
  refine W_cond rfl (fun h => ?_) (fun h => ?_)
  · have hj2 : j < P2.length := by simpa using h
    obtain ⟨m1, m2⟩ := a5 _ (List.getElem_mem hj2)
    have hx1 : (P2.flatMap strEnc)[((j : Int)).toNat * 1]? = some (.string P2[j]) := flat_get strEnc.len P2 j _ 0 _ (List.getElem?_eq_getElem hj2) rfl
    generalize P2[j] = x at *
    repeat (first | (apply RL_pu; rfl; (first | (apply Pu_indexAddrH; rfl; rfl; omega; omega; (intro w' _ hO; exact row_some (hO.of (A := .row (.slice N2 _ n2) _ _ _ _) (by (focus repeat' constructor))) (by omega))) | (apply Pu_loadR; rfl; (focus repeat' constructor); exact hx1))) | (apply RL_st0; (apply Stp_call (h := fun w' _ hO => contains_spec N1 n1 P1 x w' (rowRd strEnc.len (hO.of (A := .row (.slice N1 _ n1) _ _ _ _) (by (focus repeat' constructor))))); rfl; rintro v O' ⟨rfl, rfl⟩)) | (apply RL_st; rfl; (first | (apply Stp_call (h := fun w' _ hO => contains_spec N1 n1 P1 x w' (rowRd strEnc.len (hO.of (A := .row (.slice N1 _ n1) _ _ _ _) (by (focus repeat' constructor))))); rfl; rintro v O' ⟨rfl, rfl⟩) | (apply Stp_boxNf; rfl; (focus repeat (first | exact Nf.nil | apply Nf.cons)); intro bk) | (apply Stp_alloc; intro bk))) | refine walk1 ?_)
    rw [m1]
    repeat (first | (apply RL_st0; (apply Stp_call (h := fun w' _ hO => contains_spec A2 c2 l x w' (rowRd strEnc.len (hO.of (A := .row (.slice A2 _ c2) _ _ _ _) (by (focus repeat' constructor))))); rfl; rintro v O' ⟨rfl, rfl⟩)) | (apply RL_st; rfl; (first | (apply Stp_call (h := fun w' _ hO => contains_spec A2 c2 l x w' (rowRd strEnc.len (hO.of (A := .row (.slice A2 _ c2) _ _ _ _) (by (focus repeat' constructor))))); rfl; rintro v O' ⟨rfl, rfl⟩) | (apply Stp_boxNf; rfl; (focus repeat (first | exact Nf.nil | apply Nf.cons)); intro bk) | (apply Stp_alloc; intro bk))) | refine walk ?_)
    rw [m2]
    repeat (first | (apply RL_st; rfl; (first | (apply Stp_boxNf; rfl; (focus repeat (first | exact Nf.nil | apply Nf.cons)); intro bk) | (apply Stp_alloc; intro bk))) | refine walk ?_)
    exact ⟨j + 1, (by first | omega | (dsimp only; omega)), (by first | omega | (dsimp only; omega)), (by repeat (first | exact trivial | refine ⟨rfl, ?_⟩)), (by first | exact .refl _ | focus repeat (first | exact SubO.nil | (apply SubO.cons; focus repeat' constructor)))⟩
  repeat (first | (apply RL_st0; (apply Stp_call (h := fun w' _ hO => names_spec33 R1 Z1 L1 H1 r1 z1 l1 h1 s A2 c2 ⟨false, true, l⟩ w' (src_rd hZ1 (hO.of (by (focus repeat' constructor))) (hO.of (by (focus repeat' constructor))) (hO.of (by (focus repeat' constructor))) (hO.of (by (focus repeat' constructor))) (hO.of (A := .fact S1 (ErasAt Zs1)) (by (focus repeat' constructor)))) (rowRd strEnc.len (hO.of (A := .row (.slice A2 _ c2) _ _ _ _) (by (focus repeat' constructor)))) (by omega) (by show l.length ≤ 1000000; omega)); rfl; rintro v O' ⟨N3, n3, rfl, rfl⟩)) | (apply RL_st; rfl; (first | (apply Stp_call (h := fun w' _ hO => names_spec33 R1 Z1 L1 H1 r1 z1 l1 h1 s A2 c2 ⟨false, true, l⟩ w' (src_rd hZ1 (hO.of (by (focus repeat' constructor))) (hO.of (by (focus repeat' constructor))) (hO.of (by (focus repeat' constructor))) (hO.of (by (focus repeat' constructor))) (hO.of (A := .fact S1 (ErasAt Zs1)) (by (focus repeat' constructor)))) (rowRd strEnc.len (hO.of (A := .row (.slice A2 _ c2) _ _ _ _) (by (focus repeat' constructor)))) (by omega) (by show l.length ≤ 1000000; omega)); rfl; rintro v O' ⟨N3, n3, rfl, rfl⟩) | (apply Stp_boxNf; rfl; (focus repeat (first | exact Nf.nil | apply Nf.cons)); intro bk) | (apply Stp_alloc; intro bk))) | refine walk ?_)
  rw [a7]
  repeat (first | (apply RL_st0; (apply Stp_call (h := fun w' _ hO => names_spec33 R1 Z1 L1 H1 r1 z1 l1 h1 s none 0 ⟨true, false, []⟩ w' (src_rd hZ1 (hO.of (by (focus repeat' constructor))) (hO.of (by (focus repeat' constructor))) (hO.of (by (focus repeat' constructor))) (hO.of (by (focus repeat' constructor))) (hO.of (A := .fact S1 (ErasAt Zs1)) (by (focus repeat' constructor)))) (nilRd _ _ _) (by omega) (Nat.zero_le _)); rfl; rintro v O' ⟨N4, n4, rfl, rfl⟩)) | (apply RL_st; rfl; (first | (apply Stp_call (h := fun w' _ hO => names_spec33 R1 Z1 L1 H1 r1 z1 l1 h1 s none 0 ⟨true, false, []⟩ w' (src_rd hZ1 (hO.of (by (focus repeat' constructor))) (hO.of (by (focus repeat' constructor))) (hO.of (by (focus repeat' constructor))) (hO.of (by (focus repeat' constructor))) (hO.of (A := .fact S1 (ErasAt Zs1)) (by (focus repeat' constructor)))) (nilRd _ _ _) (by omega) (Nat.zero_le _)); rfl; rintro v O' ⟨N4, n4, rfl, rfl⟩) | (apply Stp_boxNf; rfl; (focus repeat (first | exact Nf.nil | apply Nf.cons)); intro bk) | (apply Stp_alloc; intro bk))) | refine walk ?_)
  rw [a6]
  repeat (first | (apply RL_st0; (apply Stp_call (h := fun w' _ _ => works33_spec w'); rfl; rintro v O' ⟨rfl, rfl⟩)) | (apply RL_st; rfl; (first | (apply Stp_call (h := fun w' _ _ => works33_spec w'); rfl; rintro v O' ⟨rfl, rfl⟩) | (apply Stp_boxNf; rfl; (focus repeat (first | exact Nf.nil | apply Nf.cons)); intro bk) | (apply Stp_alloc; intro bk))) | refine walk ?_)
  exact ret_1 _ [] (.tmp rfl) .nil ⟨rfl, rfl⟩
end Go.Proofs.Ytfhjfpikngcknaa
