/- Contracts: the iterator of strings.SplitSeq at a slash, name.Zone. -/
import Derived.Test.YtonjepladadmhaaGreatDoorR21
set_option maxHeartbeats 4000000
set_option linter.unusedVariables false
set_option linter.unusedSimpArgs false
namespace Go.Wk
open Go Go.RowKit
theorem pre_seq {P : Program} {n : Nat} {wr : World} {x y : Code} {Q2 : Exit → Act → World → Prop} {fr : Fr} {O : List It} (I : Fr → List It → Prop) (h : W P n wr x (fun e fr O => e = .normal ∧ I fr O) fr O) (k : ∀ a w fr' O', St n wr fr' O' a w → I fr' O' → y.wp P Q2 a w) :
  ∀ a w, St n wr fr O a w → (Code.seq x y).wp P Q2 a w := by
 intro a w hs
 refine wp_seq (wp_mono (h a w hs) ?_)
 rintro e a' w' ⟨fr', O', hs', rfl, hi⟩
 exact k a' w' fr' O' hs' hi
theorem St.sub {n : Nat} {wr : World} {fr fr' : Fr} {O O' : List It} {a : Act} {w : World} (h : St n wr fr O a w) (hf : Sub fr' fr) (hO : SubO O' O) : St n wr fr' O' a w := ⟨h.sim.sub hf, h.old, h.own.sub hO⟩
end Go.Wk
namespace Go.Proofs.YtonjepladadmhaaGreatDoor
open Go Go.RowKit Go.Wk
attribute [local irreducible] W RL Does thenQ blockQ retQ Calls Pu Stp RD Qy Ay DoesIn RLI WI
def Asks (l b1 b2 b3 : Nat) (ok : List UInt8 → Bool) (OC OF : List It) (wr : World) : Prop :=
 ∀ x rest : ByteArray, (x.size : Int) ≤ 9223372036854775807 → YieldsTo Tryz.prog l (.string x) wr (itO b1 b2 b3 rest ⟨#[47]⟩ ++ OC) fun b O' => b = ok x.data.toList ∧ (b = true → SubO (itO b1 b2 b3 rest ⟨#[47]⟩ ++ OC) O') ∧ (b = false → SubO OF O')
theorem PuZoneB0 {G : Prop} (h : G := by (apply Pu_loadB1; rfl; (focus repeat' constructor); rfl)) : G := h
theorem splitIt_spec (l b1 b2 b3 : Nat) (ok : List UInt8 → Bool) (OC OF : List It) (wr : World) (hY : Asks l b1 b2 b3 ok OC OF wr) (s : ByteArray) (hs : (s.size : Int) ≤ 9223372036854775807) :
  DoesIn Tryz.prog 232 [.func (.yield l) #[] #[], .pointer (some ⟨b2, 0, none⟩), .pointer (some ⟨b1, 0, none⟩), .pointer (some ⟨b3, 0, none⟩)] wr (itO b1 b2 b3 s ⟨#[47]⟩ ++ OC)
   (fun v O' => v = .tuple #[] ∧ ((cutSl s.data.toList []).all ok = true → SubO OC O') ∧ ((cutSl s.data.toList []).all ok = false → SubO OF O')) := by
 obtain ⟨res, hres⟩ : ∃ res, (cutSl s.data.toList []).all ok = res := ⟨_, rfl⟩
 rw [hres]
 have hix := fun (t : ByteArray) w' => index1_spec t 47 w'
 unfold itO at *
 simp only [List.cons_append, List.nil_append] at *
 refine DoesIn_of_W Tryz.func232 rfl rfl rfl rfl ?_
 repeat (first | refine walk ?_)
 refine W_loopF [(0, .func (.yield l) #[] #[]), (1, .pointer (some ⟨b2, 0, none⟩)), (2, .pointer (some ⟨b1, 0, none⟩)), (3, .pointer (some ⟨b3, 0, none⟩))] [] (fun _ : ByteArray => []) (fun g => .blk b1 [.string g] 9 :: .blk b2 [.string ⟨#[47]⟩] 9 :: .blk b3 [.int .i64 0] 3 :: OC)
  (fun g => (g.size : Int) ≤ 9223372036854775807 ∧ (cutSl g.data.toList []).all ok = res) (fun g => g.size) s SFA ?_ ⟨hs, hres⟩ ?_
 ·rw [List.append_nil]; exact .refl _
 rintro g ⟨hg, hi⟩
 rw [List.append_nil]
 have hfi := firstIdx_cut g
 rw [cutSl_acc] at hi
 cases hc : cutI g.data.toList with
 | none =>
  rw [hc] at hfi hi
  dsimp only at hfi hi
  have hix2 := hix g
  rw [hfi] at hix2
  have hsY := hg
  repeat (first | (apply W_regionY; rfl; rfl; rfl; (intro c h; cases h); rfl; (first | (apply Pu_loadB1; rfl; (focus repeat' constructor); rfl) | (apply Pu_move; rfl)); rfl; rfl; exact hY _ _ hsY; rintro b O' ⟨rfl, hb2, hb3⟩) | (apply RL_pu; rfl; exact PuZoneB0) | (refine js ?_; (refine callE (fun w' _ => hix2 w') ?_)) | refine walk1 ?_)
  refine RLI_nil ?_
  rw [List.nil_append, List.all_cons, List.all_nil, Bool.and_true] at hi
  refine ret_0 O' (.refl _) ⟨rfl, fun h => ?_, fun h => hb3 (by rw [hi]; exact h)⟩
  exact (SubO.trans (SubO.right (itO b1 b2 b3 g ⟨#[47]⟩) OC) (hb2 (by rw [hi]; exact h)))
 | some i =>
  rw [hc] at hfi hi
  dsimp only at hfi hi
  have hix2 := hix g
  rw [hfi] at hix2
  have hlt := cutI_lt hc
  have hsz : g.size = g.data.toList.length := rfl
  have hx0 : (g.extract 0 i).data.toList = g.data.toList.take i := by rw [ByteArray.data_extract]; simp
  have hx1 : (g.extract (i + 1) g.size).data.toList = g.data.toList.drop (i + 1) := by
   rw [ByteArray.data_extract]
   simp only [Array.toList_extract, List.extract_eq_take_drop]
   exact List.take_of_length_le (by rw [List.length_drop]; omega)
  have hi0 : (0 : Int) ≤ (i : Int) := Int.natCast_nonneg i
  have hi1 : (i : Int) < (g.data.toList.length : Int) := Int.ofNat_lt.2 hlt
  have hsY : ((g.extract 0 i).size : Int) ≤ 9223372036854775807 := by rw [ByteArray.size_extract]; omega
  repeat (first | (apply W_regionY; rfl; rfl; rfl; (intro c h; cases h); rfl; (first | (apply Pu_loadB1; rfl; (focus repeat' constructor); rfl) | (apply Pu_move; rfl)); rfl; rfl; exact hY _ _ hsY; rintro b O' ⟨rfl, hb2, hb3⟩) | (apply RL_pu; rfl; (apply Pu_sliceS0; rfl; rfl; omega; omega)) | (refine js ?_; (refine callE (fun w' _ => hix2 w') ?_)) | refine walk1 ?_)
  rw [List.nil_append, List.all_cons] at hi
  have hx2 : (g.extract 0 (Int.toNat ((i : Int) + 0))).data.toList = g.data.toList.take i := by rw [Int.add_zero]; exact hx0
  rw [hx2] at hb2 hb3
  apply RLI_pu (.inl rfl); rfl; (intro c h; cases h); (apply Pu_not; rfl)
  refine RLI_nil ?_
  apply thenQ_n
  rw [hx2]
  refine W_cond rfl (fun h => ?_) (fun h => ?_)
  ·simp only [Bool.not_eq_true'] at h
   rw [h, Bool.false_and] at hi
   subst hi
   repeat (first | refine walk ?_)
   exact ret_0r O' (.refl _) ⟨rfl, fun h2 => (by cases h2), fun _ => hb3 h⟩
  ·simp only [Bool.not_eq_false'] at h
   rw [h, Bool.true_and] at hi
   have hlen : (((⟨#[47]⟩ : ByteArray).size : Nat) : Int) = 1 := rfl
   have htn : ((i : Int) + (((⟨#[47]⟩ : ByteArray).size : Nat) : Int)).toNat = i + 1 := by rw [hlen]; omega
   refine W_sub (fr' := [(7, .int .i64 i), (0, .func (.yield l) #[] #[]), (1, .pointer (some ⟨b2, 0, none⟩)), (2, .pointer (some ⟨b1, 0, none⟩)), (3, .pointer (some ⟨b3, 0, none⟩))]) (O' := .blk b1 [.string g] 9 :: .blk b2 [.string ⟨#[47]⟩] 9 :: .blk b3 [.int .i64 0] 3 :: OC) SFA (hb2 h) ?_
   repeat (first | (apply RL_pu; rfl; (apply Pu_sliceSL; rfl; rfl; omega; omega)) | refine walk1 ?_)
   refine ⟨g.extract ((i : Int) + (((⟨#[47]⟩ : ByteArray).size : Nat) : Int)).toNat g.size, ?_, ⟨?_, ?_⟩, SFA, ?_⟩
   ·rw [htn, ByteArray.size_extract]; omega
   ·rw [htn, ByteArray.size_extract]; omega
   ·rw [htn, hx1]; exact hi
   ·rw [List.append_nil]; exact .refl _
def okP (s : ByteArray) (l : List UInt8) : Bool := decide (s.size ≤ 60) && partB l
theorem okP_all (s : ByteArray) : (cutSl s.data.toList []).all (okP s) = zoneB s := by
 have hne : cutSl s.data.toList [] ≠ [] := by
  rw [cutSl_acc]; split <;> simp
 unfold zoneB okP
 by_cases h : s.size ≤ 60
 ·simp [h]
 ·cases hc : cutSl s.data.toList [] with
  | nil => exact absurd hc hne
  | cons x l => simp [h]
theorem partB_eq (l : List UInt8) : partB l = (nameB 1 14 31 l && !(match l with | c :: _ => decide (c = 46) || decide (c = 45) | [] => false)) := rfl
def zoneR (s : ByteArray) (w : World) : Ending → World → Prop := fun e w' => ∃ v O, e = .returned v ∧ Bel w.heap.size w w' ∧ Holds w.heap.size O w' ∧ v = .bool (zoneB s) ∧ O = []
theorem turn_def {n : Nat} {wr : World} {fr : Fr} {O : List It} {a : Act} {w : World} {D : Nat} (hs : St n wr fr (DefIt D :: O) a w) : St n wr fr O a (w.putObj D (.deferred none)) := by
 have hin := hs.own.inb _ List.mem_cons_self D rfl
 refine ⟨hs.sim, hs.old.trans ⟨⟨rfl, rfl, rfl, by rw [putObj_size]; exact Nat.le_refl _, fun i hi => World.putObj_heap_other (by omega)⟩⟩, hs.own.tail.congr (by rw [putObj_size]; exact Nat.le_refl _) fun b ⟨i, hi, hb⟩ => World.putObj_heap_other fun e => ?_⟩
 exact (List.pairwise_cons.1 hs.own.sep).1 i hi D rfl (e ▸ hb)
theorem zone_leave (s : ByteArray) (w : World) {fr : Fr} {O R : List It} {a : Act} {w' : World} {D br : Nat} {b : Bool} (hs : St 28 w fr (DefIt D :: O) a w') (h2 : Wk.look fr 2 = some (.pointer (some ⟨br, 0, none⟩))) (hp : Pick (.blk br [.bool b] 4) O R) (hb : b = zoneB s) :
  bodyPostM Fence.wide 0 Tryz.prog Tryz.f164 (zoneR s w) .ret (actD (markD D) a) w' := by
 have hK := DefIt.at (hs.own.sat _ List.mem_cons_self)
 have hs2 := turn_def hs
 refine ⟨by simp, .inl ⟨_, _, rfl, run_takeDeferred hK, ?_⟩⟩
 refine ⟨.bool b, ?_, _, [], rfl, hs2.old, Holds.nil _ _, by rw [hb], rfl⟩
 have hc : (w'.putObj D (.deferred none)).cell? ⟨br, 0, none⟩ = some (.bool b) := by
  rw [blk_cell (hs2.own.of hp)]; rfl
 have hres : Tryz.f164.results = [ResultVar.cell 2 4].toArray := rfl
 show (results Tryz.f164 a.tmps).run Tryz.prog _ = _
 unfold results
 rw [hres, List.mapM_toArray]
 simp only [Sem.run_bind, Sem.run_map]
 rw [run_results (P := Tryz.prog) hs2 _ (fun _ => rfl) (fun _ _ => rfl) [ResultVar.cell 2 4] [.bool b] ⟨_, [], rfl, ⟨_, h2, fun w3 hB hH => ?_⟩, rfl⟩]
 ·simp only [Result.andThen_ok, Sem.run_pure]
  rfl
 ·rw [run_loadVar_one]
  rw [blk_cell (hH.of hp)]; rfl
instance : ZeroT Tryz.prog 191 [.nilFunc] := ⟨by kernel_rfl⟩
theorem zone_spec (s : ByteArray) (hs : (s.size : Int) ≤ 9223372036854775807) (w : World) : Does Tryz.prog 164 [.string s] w (fun v O => v = .bool (zoneB s) ∧ O = []) := by
 unfold Does
 refine Does_marks Tryz.func164 rfl rfl rfl ?_
 intro a0 hst
 -- Does_of_W Tryz.func164
 refine pre_seq (fun fr' O' => ∃ bs br, Sub [(1, .pointer (some ⟨bs, 0, none⟩)), (2, .pointer (some ⟨br, 0, none⟩))] fr' ∧ SubO [.blk bs [.string s] 9, .blk br [.bool false] 4] O') ?_ ?_ a0 w hst
 ·apply W_region
  apply RL_st; rfl; (apply Stp_boxNf; rfl; (focus repeat' constructor); intro bs)
  apply RL_st; rfl; (apply Stp_alloc; intro br)
  apply RL_nil
  exact ⟨rfl, bs, br, SFA, SOA⟩
 rintro a1 w1 fr1 O1 hs0 ⟨bs, br, hf1, hO1⟩
 have hs1 := hs0.sub hf1 hO1
 clear hf1 hO1 hs0 hst a0 fr1 O1
 refine pre_seq (fun fr' O' => ∃ bf b1 b2 b3 b4, Sub [(1, .pointer (some ⟨bs, 0, none⟩)), (2, .pointer (some ⟨br, 0, none⟩)), (3, .pointer (some ⟨bf, 0, none⟩))] fr' ∧ SubO (.blk bs [.string s] 9 :: .blk br [.bool false] 4 :: .blk bf [ofV b1 b2 b3 b4] 191 :: ofO 1 14 31 b1 b2 b3 b4) O') ?_ ?_ a1 w1 hs1
 ·repeat (first | (refine js ?_; (first | (apply Stp_call (h := fun w' _ _ => nof_spec 1 14 31 w'); rfl; rintro v O' ⟨b1, b2, b3, b4, rfl, rfl⟩) | (refine bx ?_; intro bk))) | refine walk ?_)
  exact ⟨rfl, _, b1, b2, b3, b4, SFA, SOA⟩
 rintro a2 w2 fr2 O2 hs0 ⟨bf, b1, b2, b3, b4, hf2, hO2⟩
 have hs2 := hs0.sub hf2 hO2
 clear hf2 hO2 hs0 hs1 a1 w1 fr2 O2
 refine wp_seq ?_
 refine pre_seq (fun fr' O' => ∃ c1 c2 c3, Sub [(1, .pointer (some ⟨bs, 0, none⟩)), (2, .pointer (some ⟨br, 0, none⟩)), (3, .pointer (some ⟨bf, 0, none⟩)), (7, itV c1 c2 c3)] fr' ∧ SubO (itO c1 c2 c3 s ⟨#[47]⟩ ++ (.blk bs [.string s] 9 :: .blk br [.bool false] 4 :: .blk bf [ofV b1 b2 b3 b4] 191 :: ofO 1 14 31 b1 b2 b3 b4)) O') ?_ ?_ a2 w2 hs2
 ·repeat (first | (apply RL_pu; rfl; exact PuZoneB0) | (refine js ?_; (first | (apply Stp_call (h := fun w' _ _ => SplitSeq_spec s ⟨#[47]⟩ w'); rfl; rintro v O' ⟨c1, c2, c3, rfl, rfl⟩) | (refine bx ?_; intro bk))) | refine walk1 ?_)
  exact ⟨rfl, c1, c2, c3, SFA, .refl _⟩
 rintro a3 w3 fr3 O3 hs0 ⟨c1, c2, c3, hf3, hO3⟩
 have hs3 := hs0.sub hf3 hO3
 clear hf3 hO3 hs0 hs2 a2 w2 fr3 O3
 refine wp_block ?_
 refine range_wp (gf := 232) (lb := [.pointer (some ⟨c2, 0, none⟩), .pointer (some ⟨c1, 0, none⟩), .pointer (some ⟨c3, 0, none⟩)]) (fun jump O2 => SubO [.blk br [.bool false] 4] O2 ∧ ((jump = none ∧ zoneB s = true) ∨ (jump = some .ret ∧ zoneB s = false))) hs3 rfl ?_ ?_
 ·intro fn l D
  generalize hr : recOf fn a3.tmps 8 _ _ D = r
  have hit := splitIt_spec l c1 c2 c3 (okP s) (LoopIt l r :: DefIt D :: .blk bs [.string s] 9 :: .blk br [.bool false] 4 :: .blk bf [ofV b1 b2 b3 b4] 191 :: ofO 1 14 31 b1 b2 b3 b4) (LoopIt l { r with state := .done, pending := some .ret } :: DefIt D :: [.blk br [.bool false] 4]) w ?_ s hs
  ·refine hit.sub (by unfold itO ofO; exact SOA) fun v O' ⟨_, h1, h2⟩ => ?_
   rw [okP_all] at h1 h2
   cases hz : zoneB s with
   | true => exact ⟨none, _, .ready, SubO.trans (by rw [← hr]; exact .refl _) (h1 hz), by decide, SOA, .inl ⟨rfl, rfl⟩⟩
   | false => exact ⟨some .ret, _, .done, h2 hz, by decide, .refl _, .inr ⟨rfl, rfl⟩⟩
  ·intro x rest hx
   refine yields_round (r := r) (p := 8) (fr := [(1, .pointer (some ⟨bs, 0, none⟩)), (2, .pointer (some ⟨br, 0, none⟩)), (3, .pointer (some ⟨bf, 0, none⟩)), (7, itV c1 c2 c3)]) (a0 := a3) (O1 := itO c1 c2 c3 rest ⟨#[47]⟩ ++ (LoopIt l { r with state := .busy } :: DefIt D :: .blk bs [.string s] 9 :: .blk br [.bool false] 4 :: .blk bf [ofV b1 b2 b3 b4] 191 :: ofO 1 14 31 b1 b2 b3 b4)) (by rw [← hr]; rfl) (by rw [← hr]; rfl) (by rw [← hr]; rfl) hs3.sim rfl (by unfold itO; exact (by repeat' constructor)) (by rw [← hr]; rfl) ?_
   apply RLI_pu (Or.inr ⟨_, rfl⟩); rfl; (intro c h; cases h); (apply Pu_assign; rfl)
   refine RLI_nil ⟨rfl, ?_⟩
   have hbody : ∀ Q fr O, (∀ b : Code, b = r.body → WI (Fence.wide.inRound l) [] Tryz.prog 28 w b Q fr O) → WI (Fence.wide.inRound l) [] Tryz.prog 28 w r.body Q fr O := fun Q fr O h => h _ rfl
   refine hbody _ _ _ fun b hb => ?_
   rw [← hr] at hb
   dsimp only [recOf] at hb
   subst hb
   unfold itO ofO
   simp only [List.cons_append, List.nil_append]
   refine WI_block (WI_seq (WI_region ?_))
   have hsx : (s.size : Int) ≤ 9223372036854775807 := hs
   by_cases hlong : (60 : Int) < (s.size : Int)
   ·have h60 : decide ((60 : Int) < (s.size : Int)) = true := decide_eq_true hlong
    have hbad : false = okP s x.data.toList := by
     unfold okP; rw [decide_eq_false (by omega), Bool.false_and]
    repeat (first | (apply RLI_pu (Or.inr ⟨_, rfl⟩); rfl; (intro c h; cases h); (first | (apply Pu_loadB1; rfl; (focus repeat' constructor); rfl) | (apply Pu_lenS; rfl) | (apply Pu_gtrB; rfl; rfl; exact h60) | (apply Pu_move; rfl) | (apply Pu_not; rfl) | (apply Pu_pickT; rfl; rfl) | (apply Pu_pickF; rfl; rfl))) | (refine RLI_yes rfl rfl rfl ?_) | (refine RLI_no (Or.inr ⟨_, rfl⟩) rfl rfl rfl rfl rfl ?_) | (refine RLI_nil ?_))
    refine thenQ_n ?_
    refine WI_cond rfl (fun _ => ?_) (fun h => by cases h)
    refine WI_seq (WI_region ?_)
    apply RLI_st (Or.inr ⟨_, rfl⟩); (intro d hd; cases hd); (intro c h; cases h); (intro a w hs; exact calm_store a w)
    (apply Stp_storeNf; rfl; rfl; (focus repeat' constructor); (focus repeat (first | exact Nf.nil | apply Nf.cons)); rfl; rfl; rfl; (focus repeat' constructor))
    refine RLI_nil ?_
    refine thenQ_n ?_
    refine WI_ret ?_
    refine blockQ_r ?_
    exact ⟨_, (by repeat' constructor), hbad, fun h => (by cases h), fun _ => SOA⟩
   have h60 : decide ((60 : Int) < (s.size : Int)) = false := decide_eq_false hlong
   have hok : okP s x.data.toList = partB x.data.toList := by
    unfold okP; rw [decide_eq_true (by omega), Bool.true_and]
   have hoc := fun {base : Nat} {O : List It} {w' : World} (hH : Holds base O w') (hO : SubO (ofO 1 14 31 b1 b2 b3 b4) O) => of_call (a := 1) (b := 14) (m := 31) hx (by decide) hH hO
   rw [hok, partB_eq]
   cases hn : nameB 1 14 31 x.data.toList with
   | false =>
    rw [hn] at hoc
    have hbad : false = (false && !(match x.data.toList with | c :: _ => decide (c = 46) || decide (c = 45) | [] => false)) := rfl
    repeat (first | (apply RLI_pu (Or.inr ⟨_, rfl⟩); rfl; (intro c h; cases h); (first | (apply Pu_loadB1; rfl; (focus repeat' constructor); rfl) | (apply Pu_lenS; rfl) | (apply Pu_gtrB; rfl; rfl; exact h60) | (apply Pu_move; rfl) | (apply Pu_not; rfl) | (apply Pu_pickT; rfl; rfl) | (apply Pu_pickF; rfl; rfl))) | (refine RLI_yes rfl rfl rfl ?_) | (refine RLI_no (Or.inr ⟨_, rfl⟩) rfl rfl rfl rfl rfl ?_) | (apply RLI_st (Or.inr ⟨_, rfl⟩); (intro d hd; cases hd; rfl); (intro c h; cases h); (intro a w hs; exact calm_callV (f := 194) (us := []) (cs := [.pointer (some ⟨b1, 0, none⟩), .pointer (some ⟨b2, 0, none⟩), .pointer (some ⟨b3, 0, none⟩), .pointer (some ⟨b4, 0, none⟩)]) hs rfl); (apply Stp_callV (f := 194) (us := []) (vs := [.string x]) (cs := [.pointer (some ⟨b1, 0, none⟩), .pointer (some ⟨b2, 0, none⟩), .pointer (some ⟨b3, 0, none⟩), .pointer (some ⟨b4, 0, none⟩)]) (h := fun w' _ hH => hoc hH (by unfold ofO; exact SOA)); rfl; rfl; rintro v O' ⟨rfl, rfl⟩)) | (refine RLI_nil ?_))
    refine thenQ_n ?_
    refine WI_cond rfl (fun _ => ?_) (fun h => by cases h)
    refine WI_seq (WI_region ?_)
    apply RLI_st (Or.inr ⟨_, rfl⟩); (intro d hd; cases hd); (intro c h; cases h); (intro a w hs; exact calm_store a w)
    (apply Stp_storeNf; rfl; rfl; (focus repeat' constructor); (focus repeat (first | exact Nf.nil | apply Nf.cons)); rfl; rfl; rfl; (focus repeat' constructor))
    refine RLI_nil ?_
    refine thenQ_n ?_
    refine WI_ret ?_
    refine blockQ_r ?_
    exact ⟨_, (by repeat' constructor), hbad, fun h => (by cases h), fun _ => SOA⟩
   | true =>
    rw [hn] at hoc
    have hsz := (nameB_size hn).1
    have hxz : (0 : Int) < (x.size : Int) := by omega
    cases hxl : x.data.toList with
    | nil =>
     exfalso
     have h0 : x.size = 0 := by
      have : x.size = x.data.toList.length := rfl
      rw [this, hxl]; rfl
     omega
    | cons c tl =>
    have hxc : x.data.toList.getD (Int.toNat 0) 0 = c := by rw [hxl]; rfl
    dsimp only
    by_cases h46 : c = 46
    ·subst h46
     have e46 : decide (((46 : UInt8).toNat : Int) = 46) = true := by decide
     have e45 := e46
     have hbad : false = (true && !(decide ((46 : UInt8) = 46) || decide ((46 : UInt8) = 45))) := by decide
     repeat (first | (apply RLI_pu (Or.inr ⟨_, rfl⟩); rfl; (intro c h; cases h); (first | (apply Pu_loadB1; rfl; (focus repeat' constructor); rfl) | (apply Pu_lenS; rfl) | (apply Pu_gtrB; rfl; rfl; exact h60) | (apply Pu_move; rfl) | (apply Pu_not; rfl) | (apply Pu_pickT; rfl; rfl) | (apply Pu_pickF; rfl; rfl) | (apply Pu_indexC; rfl; rfl; decide; exact hxz; exact hxc) | (apply Pu_eqlB; rfl; rfl; first | exact e46 | exact e45))) | (refine RLI_yes rfl rfl rfl ?_) | (refine RLI_no (Or.inr ⟨_, rfl⟩) rfl rfl rfl rfl rfl ?_) | (apply RLI_st (Or.inr ⟨_, rfl⟩); (intro d hd; cases hd; rfl); (intro c h; cases h); (intro a w hs; exact calm_callV (f := 194) (us := []) (cs := [.pointer (some ⟨b1, 0, none⟩), .pointer (some ⟨b2, 0, none⟩), .pointer (some ⟨b3, 0, none⟩), .pointer (some ⟨b4, 0, none⟩)]) hs rfl); (apply Stp_callV (f := 194) (us := []) (vs := [.string x]) (cs := [.pointer (some ⟨b1, 0, none⟩), .pointer (some ⟨b2, 0, none⟩), .pointer (some ⟨b3, 0, none⟩), .pointer (some ⟨b4, 0, none⟩)]) (h := fun w' _ hH => hoc hH (by unfold ofO; exact SOA)); rfl; rfl; rintro v O' ⟨rfl, rfl⟩)) | (refine RLI_nil ?_))
     refine thenQ_n ?_
     refine WI_cond rfl (fun _ => ?_) (fun h => by cases h)
     refine WI_seq (WI_region ?_)
     apply RLI_st (Or.inr ⟨_, rfl⟩); (intro d hd; cases hd); (intro c h; cases h); (intro a w hs; exact calm_store a w)
     (apply Stp_storeNf; rfl; rfl; (focus repeat' constructor); (focus repeat (first | exact Nf.nil | apply Nf.cons)); rfl; rfl; rfl; (focus repeat' constructor))
     refine RLI_nil ?_
     refine thenQ_n ?_
     refine WI_ret ?_
     refine blockQ_r ?_
     exact ⟨_, (by repeat' constructor), hbad, fun h => (by cases h), fun _ => SOA⟩
    have hne46 : (c.toNat : Int) ≠ 46 := fun e => h46 (UInt8.toNat_inj.1 (by show c.toNat = 46; omega))
    by_cases h45 : c = 45
    ·subst h45
     have e46 : decide (((45 : UInt8).toNat : Int) = 46) = false := by decide
     have e45 : decide (((45 : UInt8).toNat : Int) = 45) = true := by decide
     have hbad : false = (true && !(decide ((45 : UInt8) = 46) || decide ((45 : UInt8) = 45))) := by decide
     repeat (first | (apply RLI_pu (Or.inr ⟨_, rfl⟩); rfl; (intro c h; cases h); (first | (apply Pu_loadB1; rfl; (focus repeat' constructor); rfl) | (apply Pu_lenS; rfl) | (apply Pu_gtrB; rfl; rfl; exact h60) | (apply Pu_move; rfl) | (apply Pu_not; rfl) | (apply Pu_pickT; rfl; rfl) | (apply Pu_pickF; rfl; rfl) | (apply Pu_indexC; rfl; rfl; decide; exact hxz; exact hxc) | (apply Pu_eqlB; rfl; rfl; first | exact e46 | exact e45))) | (refine RLI_yes rfl rfl rfl ?_) | (refine RLI_no (Or.inr ⟨_, rfl⟩) rfl rfl rfl rfl rfl ?_) | (apply RLI_st (Or.inr ⟨_, rfl⟩); (intro d hd; cases hd; rfl); (intro c h; cases h); (intro a w hs; exact calm_callV (f := 194) (us := []) (cs := [.pointer (some ⟨b1, 0, none⟩), .pointer (some ⟨b2, 0, none⟩), .pointer (some ⟨b3, 0, none⟩), .pointer (some ⟨b4, 0, none⟩)]) hs rfl); (apply Stp_callV (f := 194) (us := []) (vs := [.string x]) (cs := [.pointer (some ⟨b1, 0, none⟩), .pointer (some ⟨b2, 0, none⟩), .pointer (some ⟨b3, 0, none⟩), .pointer (some ⟨b4, 0, none⟩)]) (h := fun w' _ hH => hoc hH (by unfold ofO; exact SOA)); rfl; rfl; rintro v O' ⟨rfl, rfl⟩)) | (refine RLI_nil ?_))
     refine thenQ_n ?_
     refine WI_cond rfl (fun _ => ?_) (fun h => by cases h)
     refine WI_seq (WI_region ?_)
     apply RLI_st (Or.inr ⟨_, rfl⟩); (intro d hd; cases hd); (intro c h; cases h); (intro a w hs; exact calm_store a w)
     (apply Stp_storeNf; rfl; rfl; (focus repeat' constructor); (focus repeat (first | exact Nf.nil | apply Nf.cons)); rfl; rfl; rfl; (focus repeat' constructor))
     refine RLI_nil ?_
     refine thenQ_n ?_
     refine WI_ret ?_
     refine blockQ_r ?_
     exact ⟨_, (by repeat' constructor), hbad, fun h => (by cases h), fun _ => SOA⟩
    have hne45 : (c.toNat : Int) ≠ 45 := fun e => h45 (UInt8.toNat_inj.1 (by show c.toNat = 45; omega))
    have e46 : decide ((c.toNat : Int) = 46) = false := decide_eq_false hne46
    have e45 : decide ((c.toNat : Int) = 45) = false := decide_eq_false hne45
    have hgood : true = (true && !(decide (c = 46) || decide (c = 45))) := by rw [decide_eq_false h46, decide_eq_false h45]; rfl
    repeat (first | (apply RLI_pu (Or.inr ⟨_, rfl⟩); rfl; (intro c h; cases h); (first | (apply Pu_loadB1; rfl; (focus repeat' constructor); rfl) | (apply Pu_lenS; rfl) | (apply Pu_gtrB; rfl; rfl; exact h60) | (apply Pu_move; rfl) | (apply Pu_not; rfl) | (apply Pu_pickT; rfl; rfl) | (apply Pu_pickF; rfl; rfl) | (apply Pu_indexC; rfl; rfl; decide; exact hxz; exact hxc) | (apply Pu_eqlB; rfl; rfl; first | exact e46 | exact e45))) | (refine RLI_yes rfl rfl rfl ?_) | (refine RLI_no (Or.inr ⟨_, rfl⟩) rfl rfl rfl rfl rfl ?_) | (apply RLI_st (Or.inr ⟨_, rfl⟩); (intro d hd; cases hd; rfl); (intro c h; cases h); (intro a w hs; exact calm_callV (f := 194) (us := []) (cs := [.pointer (some ⟨b1, 0, none⟩), .pointer (some ⟨b2, 0, none⟩), .pointer (some ⟨b3, 0, none⟩), .pointer (some ⟨b4, 0, none⟩)]) hs rfl); (apply Stp_callV (f := 194) (us := []) (vs := [.string x]) (cs := [.pointer (some ⟨b1, 0, none⟩), .pointer (some ⟨b2, 0, none⟩), .pointer (some ⟨b3, 0, none⟩), .pointer (some ⟨b4, 0, none⟩)]) (h := fun w' _ hH => hoc hH (by unfold ofO; exact SOA)); rfl; rfl; rintro v O' ⟨rfl, rfl⟩)) | (refine RLI_nil ?_))
    refine thenQ_n ?_
    refine WI_cond rfl (fun h => by cases h) (fun _ => ?_)
    refine WI_skip ?_
    refine blockQ_n ?_
    exact ⟨_, (by repeat' constructor), hgood, fun _ => SubO.trans (by rw [← hr]; exact .refl _) (.refl _), fun h => (by cases h)⟩
 ·rintro jump O2 D w4 ⟨hsub, ⟨rfl, hz⟩ | ⟨rfl, hz⟩⟩ hs4
  ·have hs5 : St 28 w [(2, .pointer (some ⟨br, 0, none⟩))] [DefIt D, .blk br [.bool false] 4] a3 w4 := hs4.sub SFA (.cons .here hsub)
   show (Code.seq _ _).wp _ _ _ _
   have key : ∀ c Q' Q3, WI Fence.wide (markD D) Tryz.prog 28 w c Q' [(2, .pointer (some ⟨br, 0, none⟩))] [DefIt D, .blk br [.bool false] 4] → (∀ e a' w', liftI (markD D) 28 w Q' e a' w' → Q3 e a' w') → c.wp Tryz.prog Q3 (actD (markD D) a3) w4 := fun c Q' Q3 h hq => (wpIn_wide (n := 0)).1 (wpIn_mono (h.at hs5) hq)
   refine key _ (fun e fr O => e = .ret ∧ Sub [(2, .pointer (some ⟨br, 0, none⟩))] fr ∧ SubO [DefIt D, .blk br [.bool true] 4] O) _ (WI_seq (WI_region ?_)) ?_
   ·apply RLI_st (.inl rfl); (intro d hd; cases hd); (intro c h; cases h); (intro a w hs; exact calm_store a w)
    (apply Stp_storeNf; rfl; rfl; (focus repeat' constructor); (focus repeat (first | exact Nf.nil | apply Nf.cons)); rfl; rfl; rfl; (focus repeat' constructor))
    refine RLI_nil ?_
    refine thenQ_n ?_
    refine WI_ret ?_
    exact ⟨rfl, SFA, .refl _⟩
   ·rintro e a' w' ⟨hd, fr', O', hs', rfl, hf, hO⟩
    have h := zone_leave s w (hs'.sub hf hO) rfl (.here) hz.symm
    rw [actD_back hd] at h
    exact h
  ·have hs5 : St 28 w [(2, .pointer (some ⟨br, 0, none⟩))] [DefIt D, .blk br [.bool false] 4] a3 w4 := hs4.sub SFA (.cons .here hsub)
   refine wp_ret ?_
   exact zone_leave s w hs5 rfl .here hz.symm
end Go.Proofs.YtonjepladadmhaaGreatDoor
