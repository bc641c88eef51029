/- Parts of the proof. -/
import Derived.Test.YtpcpmndldgejiaaGreatDoorV17
import Derived.Test.YtpcpmndldgejiaaGreatDoorV06
import Derived.Test.YtpcpmndldgejiaaGreatDoorV07
import Derived.Test.YtpcpmndldgejiaaGreatDoorV27
import Derived.Test.YtpcpmndldgejiaaGreatDoorV11
import Derived.Test.YtpcpmndldgejiaaGreatDoorV05
import Derived.Test.YtpcpmndldgejiaaGreatDoorV26
import Derived.Shelf.Sort.Plain
import Derived.Shelf.Lay
set_option maxHeartbeats 4000000
set_option linter.unusedVariables false
set_option linter.unusedSimpArgs false
set_option maxHeartbeats 4000000
set_option maxRecDepth 20000
namespace Go.Proofs.YtpcpmndldgejiaaGreatDoor
open Go Go.RowKit Go.Wk
attribute [local irreducible] W RL Does Zat Zak retQ Calls Pu Stp RD Qy Ay Zam RLI WI
def KeysR (m : List (ByteArray × Value)) (v : Value) (O : List It) : Prop := ∃ (A : Option Addr) (c : Nat) (d : List (ByteArray × Value)), d.Perm m ∧ v = .slice A (d.map (·.1)).length c ∧ (d.map (·.1)).length ≤ c ∧ c ≤ maxLen ∧ (0 < (d.map (·.1)).length → A ≠ none) ∧ O = [.row (.slice A (d.map (·.1)).length c) 9 1 (d.map (·.1)).length ((d.map (·.1)).flatMap Zau)]
def seqR (m : List (ByteArray × Value)) (wr : World) : Ending → World → Prop := fun e w' => ∃ v O, e = .returned v ∧ Bel wr.heap.size wr w' ∧ Holds wr.heap.size O w' ∧ KeysR m v O
theorem seq_leave (m : List (ByteArray × Value)) (wr : World) {fr : Fr} {O R : List It} {a : Act} {w' : World} {D : Nat} {v : Value} (hs : St 13 wr fr (Zb4 D :: O) a w') (h2 : Wk.look fr 4 = some v) (hO : SubO R O) (hR : KeysR m v R) :
  bodyPostM Fence.wide 0 Tryz.prog Tryz.f138 (seqR m wr) .ret (actD (Zet D) a) w' := by
 have hK := Zb4.at (hs.own.sat _ List.mem_cons_self)
 have hs2 := turn_def hs
 refine ⟨by simp, .inl ⟨_, _, rfl, run_takeDeferred hK, ?_⟩⟩
 refine ⟨v, ?_, _, R, rfl, hs2.old, hs2.own.sub hO, hR⟩
 have hres : Tryz.f138.results = [ResultVar.tmp 4].toArray := rfl
 show (results Tryz.f138 a.tmps).run Tryz.prog _ = _
 unfold results
 rw [hres, List.mapM_toArray]
 simp only [Sem.run_bind, Sem.run_map]
 rw [Zcl (P := Tryz.prog) hs2 _ (fun _ => rfl) (fun _ _ => rfl) [ResultVar.tmp 4] [v] ⟨_, [], rfl, h2, rfl⟩]
 simp only [Result.andThen_ok, Sem.run_pure]
 rfl
abbrev SQ := Option Addr × Nat × List ByteArray
abbrev seqO (l D bs : Nat) (r : Loop) (s : SQ) : List It := [Za2 l r, Zb4 D, .blk bs [.slice s.1 s.2.2.length s.2.1] 32, .row (.slice s.1 s.2.2.length s.2.1) 9 1 s.2.2.length (s.2.2.flatMap Zau)]
theorem appendSeq_spec (bx b : Nat) (m : List (ByteArray × Value)) (hm : m.length ≤ 1000000) (wr : World) :
  Zam Tryz.prog 138 [.slice none 0 0, .func (.func 97) #[] #[.pointer (some ⟨bx, 0, none⟩)]] wr [.blk bx [.map (some b)] 133, .mp b m] (KeysR m) := by
 unfold Zam
 intro w0 hB0 hH0
 refine DoesIn_marks Tryz.func138 rfl rfl rfl hB0 hH0 ?_
 intro a0 hst
 -- Zab Tryz.func138
 refine ZdR (fun fr' O' => ∃ bs, Sub [(1, .func (.func 97) #[] #[.pointer (some ⟨bx, 0, none⟩)]), (2, .pointer (some ⟨bs, 0, none⟩))] fr' ∧ SubO [.blk bs [.slice none 0 0] 32, .row (.slice none 0 0) 9 1 0 [], .blk bx [.map (some b)] 133, .mp b m] O') ?_ ?_ a0 w0 hst
 ·refine Zcd 9 1 ?_
  apply W_region
  apply RL_st; rfl; (apply Stp_boxNf; rfl; (focus repeat' constructor); intro bs)
  apply RL_pu; rfl; (apply Pu_assign; rfl)
  apply RL_nil
  exact ⟨rfl, bs, SFA, SOA⟩
 rintro a1 w1 fr1 O1 hs0 ⟨bs, hf1, hO1⟩
 have hs1 := hs0.sub hf1 hO1
 clear hf1 hO1 hs0 hst a0 fr1 O1
 refine wp_seq ?_
 refine ZdR (fun fr' O' => Sub [(2, .pointer (some ⟨bs, 0, none⟩)), (6, .func (.func 97) #[] #[.pointer (some ⟨bx, 0, none⟩)])] fr' ∧ SubO [.blk bs [.slice none 0 0] 32, .row (.slice none 0 0) 9 1 0 [], .blk bx [.map (some b)] 133, .mp b m] O') ?_ ?_ a1 w1 hs1
 ·apply W_region
  apply RL_pu; rfl; (apply Pu_move; rfl)
  apply RL_nil
  exact ⟨rfl, SFA, SOA⟩
 rintro a2 w2 fr2 O2 hs0 ⟨hf2, hO2⟩
 have hs2 := hs0.sub hf2 hO2
 clear hf2 hO2 hs0 hs1 a1 w1 fr2 O2
 refine wp_block ?_
 refine range_wp (gf := 97) (lb := [.pointer (some ⟨bx, 0, none⟩)]) (fun jump O2 => jump = none ∧ ∃ s : SQ, ∃ d : List (ByteArray × Value), d.Perm m ∧ s.2.2 = d.map (·.1) ∧ s.2.2.length ≤ s.2.1 ∧ s.2.1 ≤ maxLen ∧ (0 < s.2.2.length → s.1 ≠ none) ∧ SubO [.blk bs [.slice s.1 s.2.2.length s.2.1] 32, .row (.slice s.1 s.2.2.length s.2.1) 9 1 s.2.2.length (s.2.2.flatMap Zau)] O2) hs2 rfl ?_ ?_
 ·intro fn l D
  generalize hr : recOf fn a2.tmps 7 _ _ D = r
  have hit := keysIt_spec l bx b m (seqO l D bs r) (fun d (s : SQ) => s.2.2 = d.map (·.1) ∧ s.2.2.length ≤ s.2.1 ∧ s.2.1 ≤ maxLen ∧ (0 < s.2.2.length → s.1 ≠ none)) wr (none, 0, []) ⟨rfl, Nat.le_refl _, by simp [maxLen], by simp⟩ ?_
  ·refine hit.sub SOA fun v O' ⟨_, d, s, h1, ⟨h2, h3, h4, h5⟩, h6⟩ => ?_
   exact ⟨none, _, .ready, SubO.trans (by rw [← hr]; exact SOA) h6, by decide, rfl, s, d, h1, h2, h3, h4, h5, .refl _⟩
  ·rintro d kv ⟨A, c, x⟩ X Y hlt ⟨h2, h3, h4, h5⟩
   dsimp only at h2 h3 h4 h5
   have hxl : x.length < 1000000 := by rw [h2, List.length_map]; omega
   refine yields_round (r := r) (p := 7) (fr := [(2, .pointer (some ⟨bs, 0, none⟩)), (6, .func (.func 97) #[] #[.pointer (some ⟨bx, 0, none⟩)])]) (a0 := a2) (O1 := [X, Y, Za2 l { r with state := .busy }, Zb4 D, .blk bs [.slice A x.length c] 32, .row (.slice A x.length c) 9 1 x.length (x.flatMap Zau)]) (by rw [← hr]; rfl) (by rw [← hr]; rfl) (by rw [← hr]; rfl) hs2.sim rfl (by repeat' constructor) (by rw [← hr]; rfl) ?_
   apply Zb2 (Or.inr ⟨_, rfl⟩); rfl; (intro c h; cases h); (apply Pu_assign; rfl)
   refine Za5 ⟨rfl, ?_⟩
   have hbody : ∀ Q fr O, (∀ b : Code, b = r.body → WI (Fence.wide.inRound l) [] Tryz.prog 13 wr b Q fr O) → WI (Fence.wide.inRound l) [] Tryz.prog 13 wr r.body Q fr O := fun Q fr O h => h _ rfl
   refine hbody _ _ _ fun b hb => ?_
   rw [← hr] at hb
   dsimp only [recOf] at hb
   subst hb
   refine WI_block (Zbp ?_)
   apply Zb2 (Or.inr ⟨_, rfl⟩); rfl; (intro c h; cases h); (apply Pu_loadB1; rfl; (focus repeat' constructor); rfl)
   apply Zb2 (Or.inr ⟨_, rfl⟩); rfl; (intro c h; cases h); (apply Pu_move; rfl)
   apply ZbG (Or.inr ⟨_, rfl⟩); (intro d hd; cases hd; rfl); (intro c h; cases h); (intro a w hs; apply calm_buildSlice)
   apply ZbN; rfl; rfl; rfl; intro bq
   apply ZbG (Or.inr ⟨_, rfl⟩); (intro d hd; cases hd; rfl); (intro c h; cases h); (intro a w hs; apply calm_append)
   apply Zaq; rfl; rfl; (intro A' c'; (focus repeat' constructor)); (intro w' _ hO; exact Za1 (hO.of (by repeat' constructor))); rfl; rfl; (simp only [maxLen]; omega); omega; intro A' c' hc1 hc2 hc3
   apply ZbG (Or.inr ⟨_, rfl⟩); (intro d hd; cases hd); (intro c h; cases h); (intro a w hs; exact ZcS a w)
   (apply Stp_storeNf; rfl; rfl; (focus repeat' constructor); (focus repeat (first | exact Nf.nil | apply Nf.cons)); rfl; rfl; rfl; (focus repeat' constructor))
   refine Za5 ?_
   refine blockQ_n ?_
   have hl1 : (x ++ [kv.1]).length = x.length + 1 := by simp
   refine ⟨_, (by repeat' constructor), rfl, (A', c', x ++ [kv.1]), ⟨by rw [h2]; simp, by dsimp only; omega, hc2, fun _ => hc3 (by omega)⟩, ?_⟩
   dsimp only [seqO]
   rw [hl1, ← Zb9, ← hr]
   exact SOA
 ·rintro jump O2 D w4 ⟨rfl, ⟨A, c, x⟩, d, h1, h2, h3, h4, h5, hsub⟩ hs4
  dsimp only at h2 h3 h4 h5 hsub
  subst h2
  have hs5 : St 13 wr [(2, .pointer (some ⟨bs, 0, none⟩))] [Zb4 D, .blk bs [.slice A (d.map (·.1)).length c] 32, .row (.slice A (d.map (·.1)).length c) 9 1 (d.map (·.1)).length ((d.map (·.1)).flatMap Zau)] a2 w4 := hs4.sub SFA (.cons .here hsub)
  show (Code.seq _ _).wp _ _ _ _
  have key : ∀ c' Q' Q3, WI Fence.wide (Zet D) Tryz.prog 13 wr c' Q' [(2, .pointer (some ⟨bs, 0, none⟩))] [Zb4 D, .blk bs [.slice A (d.map (·.1)).length c] 32, .row (.slice A (d.map (·.1)).length c) 9 1 (d.map (·.1)).length ((d.map (·.1)).flatMap Zau)] → (∀ e a' w', liftI (Zet D) 13 wr Q' e a' w' → Q3 e a' w') → c'.wp Tryz.prog Q3 (actD (Zet D) a2) w4 := fun c' Q' Q3 h hq => (wpIn_wide (n := 0)).1 (wpIn_mono (h.at hs5) hq)
  refine key _ (fun e fr O => e = .ret ∧ Sub [(4, .slice A (d.map (·.1)).length c)] fr ∧ SubO [Zb4 D, .row (.slice A (d.map (·.1)).length c) 9 1 (d.map (·.1)).length ((d.map (·.1)).flatMap Zau)] O) _ (WI_seq (Zbp ?_)) ?_
  ·apply Zb2 (.inl rfl); rfl; (intro c h; cases h); (apply Pu_loadB1; rfl; (focus repeat' constructor); rfl)
   apply Zb2 (.inl rfl); rfl; (intro c h; cases h); (apply Pu_assign; rfl)
   refine Za5 ?_
   refine thenQ_n ?_
   refine WI_ret ?_
   exact ⟨rfl, SFA, SOA⟩
  ·rintro e a' w' ⟨hd, fr', O', hs', rfl, hf, hO⟩
   have h := seq_leave m wr (hs'.sub hf hO) rfl (.refl _) ⟨A, c, d, h1, rfl, h3, h4, h5, rfl⟩
   rw [ZdH hd] at h
   exact h
end Go.Proofs.YtpcpmndldgejiaaGreatDoor
namespace Go.Proofs.YtpcpmndldgejiaaGreatDoor
open Go Go.RowKit Go.Wk
attribute [local irreducible] W RL Does Zat Zak retQ Calls Pu Stp RD Qy Ay
end Go.Proofs.YtpcpmndldgejiaaGreatDoor
namespace Go.Proofs.YtpcpmndldgejiaaGreatDoor
open Go Go.RowKit Go.Wk
attribute [local irreducible] W RL Does Zat Zak retQ Calls Pu Stp RD Qy Ay Zam
end Go.Proofs.YtpcpmndldgejiaaGreatDoor
namespace Go.Proofs.YtpcpmndldgejiaaGreatDoor
open Go Go.RowKit Go.Wk
theorem ret_0r {P : Program} {wr : World} {fr : Fr} {O : List It} {R : Value → List It → Prop} (O' : List It) (hO : SubO O' O) (hR : R (.tuple #[]) O') : retQ P wr [] R .ret fr O := ⟨[], O', rfl, hO, hR⟩
attribute [local irreducible] W RL Does Zat Zak retQ Calls Pu Stp RD Qy Ay Zam
end Go.Proofs.YtpcpmndldgejiaaGreatDoor
namespace Go.Proofs.YtpcpmndldgejiaaGreatDoor
open Go Go.RowKit Go.Wk
attribute [local irreducible] W RL Does Zat Zak retQ Calls Pu Stp RD Qy Ay
end Go.Proofs.YtpcpmndldgejiaaGreatDoor
namespace Go.Proofs.YtpcpmndldgejiaaGreatDoor
open Go Go.RowKit Go.Wk
attribute [local irreducible] W RL Does Zat Zak retQ Calls Pu Stp RD Qy Ay Zam
end Go.Proofs.YtpcpmndldgejiaaGreatDoor
namespace Go.Proofs.YtpcpmndldgejiaaGreatDoor
open Go Go.RowKit Go.Wk
end Go.Proofs.YtpcpmndldgejiaaGreatDoor
set_option maxHeartbeats 4000000
namespace Go.Proofs.YtpcpmndldgejiaaGreatDoor
open Go Go.RowKit Go.Wk
theorem msets_get (x : ByteArray) : ∀ (l m : List (ByteArray × Value)), (mget (Zdp m l) x).isSome = true ↔ (mget m x).isSome = true ∨ x ∈ l.map Prod.fst
 | [], m => by simp [Zdp]
 | e :: l, m => by
  rw [Zdp, msets_get x l, Zcz, List.map_cons, List.mem_cons]
  by_cases h : x = e.1
  ·rw [if_pos h]; simp [h]
  ·rw [if_neg h]; simp [h]
theorem msets_nd : ∀ (l : List (ByteArray × Value)) {m : List (ByteArray × Value)}, Nd m → Nd (Zdp m l)
 | [], _, h => h
 | e :: l, _, h => msets_nd l (h.set e.1 e.2)
theorem msets_len : ∀ (l m : List (ByteArray × Value)), (Zdp m l).length ≤ m.length + l.length
 | [], m => Nat.le_refl _
 | e :: l, m => by
  have h1 := msets_len l (mset m e.1 e.2)
  have h2 := mset_len e.1 e.2 m
  rw [Zdp, List.length_cons]
  omega
theorem firstZ_mem' (x : ByteArray) : ∀ (l : List ZaN) (k : Nat), (Zaw x l k).isSome = true ↔ x ∈ l.map ZaN.name
 | [], _ => by simp [Zaw]
 | z :: l, k => by
  rw [Zaw, List.map_cons, List.mem_cons]
  by_cases h : z.name = x
  ·rw [if_pos h]; simp [h]
  ·rw [if_neg h, firstZ_mem' x l]
   have h' : ¬ x = z.name := fun e => h e.symm
   simp [h']
theorem firstL_mem' (x : ByteArray) : ∀ (l : List ZaC) (k : Nat), (Zaz x l k).isSome = true ↔ x ∈ l.map ZaC.name
 | [], _ => by simp [Zaz]
 | z :: l, k => by
  rw [Zaz, List.map_cons, List.mem_cons]
  by_cases h : z.name = x
  ·rw [if_pos h]; simp [h]
  ·rw [if_neg h, firstL_mem' x l]
   have h' : ¬ x = z.name := fun e => h e.symm
   simp [h']
theorem mget_mem' (x : ByteArray) (m : List (ByteArray × Value)) : (mget m x).isSome = true ↔ x ∈ m.map Prod.fst := by
 have := ZdT x m
 cases h : mget m x with
 | none =>
  have h3 := this.1 h
  exact ⟨fun e => (by cases e), fun e => absurd e h3⟩
 | some v =>
  have h2 : x ∈ m.map Prod.fst := Classical.byContradiction fun hn => by rw [this.2 hn] at h; cases h
  exact ⟨fun _ => h2, fun _ => rfl⟩
attribute [local irreducible] W RL Does Zat Zak retQ Calls Pu Stp RD Qy Ay Zam RLI WI
theorem keys_spec (b : Nat) (w : World) : Does Tryz.prog 54 [.map (some b)] w (fun v O => ∃ bx, v = .func (.func 97) #[] #[.pointer (some ⟨bx, 0, none⟩)] ∧ O = [.blk bx [.map (some b)] 133]) := by
 refine Zab Tryz.func54 rfl rfl rfl rfl ?_
 repeat (first | (refine js ?_; (refine bx ?_; intro bk)) | refine walk ?_)
 exact ret_1 _ _ (.tmp rfl) (.refl _) ⟨_, rfl, rfl⟩
theorem collect_spec (bx b : Nat) (m : List (ByteArray × Value)) (hm : m.length ≤ 1000000) (wr : World) :
  Zam Tryz.prog 95 [.func (.func 97) #[] #[.pointer (some ⟨bx, 0, none⟩)]] wr [.blk bx [.map (some b)] 133, .mp b m] (KeysR m) := by
 refine ZaY Tryz.func95 rfl rfl rfl rfl ?_
 repeat (first | (refine js ?_; (apply Zbt (h := appendSeq_spec bx b m hm wr); rfl; exact SOA; rintro v O' ⟨A, c, d, h1, rfl, h3, h4, h5, rfl⟩)) | refine walk ?_)
 exact ret_1 _ [.row (.slice A (d.map Prod.fst).length c) 9 1 (d.map Prod.fst).length ((d.map Prod.fst).flatMap Zau)] (.tmp rfl) SOA ⟨A, c, d, h1, rfl, h3, h4, h5, rfl⟩
end Go.Proofs.YtpcpmndldgejiaaGreatDoor
namespace Go.Proofs.YtpcpmndldgejiaaGreatDoor
open Go Go.RowKit Go.Wk
theorem firstZ_app (x : ByteArray) : ∀ (l l' : List ZaN) (k : Nat), Zaw x (l ++ l') k = match Zaw x l k with | some i => some i | none => Zaw x l' (k + l.length)
 | [], _, _ => rfl
 | z :: l, l', k => by
  rw [List.cons_append, Zaw, Zaw]
  by_cases h : z.name = x
  ·rw [if_pos h, if_pos h]
  ·rw [if_neg h, if_neg h, firstZ_app x l l' (k + 1), List.length_cons, show k + 1 + l.length = k + (l.length + 1) by omega]
theorem firstL_app (x : ByteArray) : ∀ (l l' : List ZaC) (k : Nat), Zaz x (l ++ l') k = match Zaz x l k with | some i => some i | none => Zaz x l' (k + l.length)
 | [], _, _ => rfl
 | z :: l, l', k => by
  rw [List.cons_append, Zaz, Zaz]
  by_cases h : z.name = x
  ·rw [if_pos h, if_pos h]
  ·rw [if_neg h, if_neg h, firstL_app x l l' (k + 1), List.length_cons, show k + 1 + l.length = k + (l.length + 1) by omega]
theorem firstZ_shift (x : ByteArray) : ∀ (l : List ZaN) (k n : Nat), Zaw x l (k + n) = (Zaw x l k).map (· + n)
 | [], _, _ => rfl
 | z :: l, k, n => by
  rw [Zaw, Zaw]
  by_cases h : z.name = x
  ·rw [if_pos h, if_pos h]; rfl
  ·rw [if_neg h, if_neg h, show k + n + 1 = k + 1 + n by omega, firstZ_shift x l (k + 1) n]
theorem firstL_shift (x : ByteArray) : ∀ (l : List ZaC) (k n : Nat), Zaz x l (k + n) = (Zaz x l k).map (· + n)
 | [], _, _ => rfl
 | z :: l, k, n => by
  rw [Zaz, Zaz]
  by_cases h : z.name = x
  ·rw [if_pos h, if_pos h]; rfl
  ·rw [if_neg h, if_neg h, show k + n + 1 = k + 1 + n by omega, firstL_shift x l (k + 1) n]
theorem fstZ_mem {x : ByteArray} : ∀ (l : List ZaN) (k i : Nat), Zaw x l k = some i → k ≤ i ∧ i < k + l.length ∧ x ∈ l.map (·.name)
 | [], _, _, h => by cases h
 | z :: l, k, i, h => by
  rw [Zaw] at h
  by_cases hz : z.name = x
  ·rw [if_pos hz] at h
   cases h
   exact ⟨Nat.le_refl _, by simp, by simp [hz]⟩
  ·rw [if_neg hz] at h
   obtain ⟨h1, h2, h3⟩ := fstZ_mem l (k + 1) i h
   exact ⟨by omega, by simp only [List.length_cons]; omega, List.mem_cons_of_mem _ h3⟩
theorem fstL_mem {x : ByteArray} : ∀ (l : List ZaC) (k i : Nat), Zaz x l k = some i → k ≤ i ∧ i < k + l.length ∧ x ∈ l.map (·.name)
 | [], _, _, h => by cases h
 | z :: l, k, i, h => by
  rw [Zaz] at h
  by_cases hz : z.name = x
  ·rw [if_pos hz] at h
   cases h
   exact ⟨Nat.le_refl _, by simp, by simp [hz]⟩
  ·rw [if_neg hz] at h
   obtain ⟨h1, h2, h3⟩ := fstL_mem l (k + 1) i h
   exact ⟨by omega, by simp only [List.length_cons]; omega, List.mem_cons_of_mem _ h3⟩
theorem firstZ_out {x : ByteArray} {l : List ZaN} {k : Nat} (h : x ∉ l.map (·.name)) : Zaw x l k = none := firstZ_no l k fun z hz he => h (List.mem_map.2 ⟨z, hz, he⟩)
theorem firstL_out {x : ByteArray} {l : List ZaC} {k : Nat} (h : x ∉ l.map (·.name)) : Zaz x l k = none := firstL_no l k fun z hz he => h (List.mem_map.2 ⟨z, hz, he⟩)
structure LkOk (s : Zaf) : Prop where
 z : ∀ j z, s.zones[j]? = some z → ZcU z.name = true ∧ Zaw z.name s.zones 0 = some j
 l : ∀ j x, s.links[j]? = some x → ZcU x.name = true ∧ Zaw x.name s.zones 0 = none ∧ Zaz x.name s.links 0 = some j ∧ x.target ∈ nms s
 f : ∀ x ∈ s.links, (Zar s (s.links.length + 1) [] x.name).2 = 0
theorem ZdK {s : Zaf} : ∀ (l : List ZaN) (i : Nat), ZaR s l i = none ↔ ∀ j z, l[j]? = some z → ZcU z.name = true ∧ Zaw z.name s.zones 0 = some (i + j)
 | [], i => ⟨fun _ j z h => by simp at h, fun _ => rfl⟩
 | x :: l, i => by
  rw [ZaR]
  by_cases h1 : ZcU x.name = false
  ·rw [if_pos h1]
   refine ⟨fun h => (by cases h), fun h => ?_⟩
   have := (h 0 x rfl).1
   rw [h1] at this
   cases this
  rw [if_neg h1]
  by_cases h2 : Zaw x.name s.zones 0 ≠ some i
  ·rw [if_pos h2]
   exact ⟨fun h => (by cases h), fun h => absurd (h 0 x rfl).2 h2⟩
  rw [if_neg h2, ZdK l (i + 1)]
  constructor
  ·intro h j z hj
   rcases j with _ | j
   ·simp only [List.getElem?_cons_zero, Option.some.injEq] at hj
    subst hj
    exact ⟨by cases hz : ZcU x.name with | true => rfl | false => exact absurd hz h1, Decidable.not_not.1 h2⟩
   ·simp only [List.getElem?_cons_succ] at hj
    obtain ⟨a1, a2⟩ := h j z hj
    exact ⟨a1, by rw [a2]; congr 1; omega⟩
  ·intro h j z hj
   obtain ⟨a1, a2⟩ := h (j + 1) z (by simpa using hj)
   exact ⟨a1, by rw [a2]; congr 1; omega⟩
theorem linkFault_none {s : Zaf} : ∀ (l : List ZaC) (i : Nat), (∀ j x, l[j]? = some x → ZcU x.name = true ∧ Zaw x.name s.zones 0 = none ∧ Zaz x.name s.links 0 = some (i + j) ∧ x.target ∈ nms s) → ZaS s l i = none
 | [], i, _ => rfl
 | x :: l, i, h => by
  obtain ⟨h1, h2, h3, h4⟩ := h 0 x rfl
  have ih := linkFault_none (s := s) l (i + 1) fun j y hj => by
   obtain ⟨a1, a2, a3, a4⟩ := h (j + 1) y (by simpa using hj)
   exact ⟨a1, a2, by rw [a3]; congr 1; omega, a4⟩
  rw [ZaS, if_neg (by rw [h1]; decide), if_neg (by rw [h2, h3]; simp), if_neg, ih]
  rintro ⟨h5, h6⟩
  unfold nms at h4
  rcases List.mem_append.1 h4 with h4 | h4
  ·obtain ⟨z, hz, he⟩ := List.mem_map.1 h4
   obtain ⟨k, hk⟩ := List.mem_iff_getElem?.1 hz
   cases hf : Zaw x.target s.zones 0 with
   | some v => rw [hf] at h5; cases h5
   | none =>
    have : ∀ (l : List ZaN) (k : Nat), z ∈ l → Zaw x.target l k ≠ none := fun l => by
     induction l with
     | nil => intro k hz; cases hz
     | cons y l ih =>
      intro k hz
      rw [Zaw]
      by_cases hy : y.name = x.target
      ·rw [if_pos hy]; simp
      ·rw [if_neg hy]
       rcases List.mem_cons.1 hz with rfl | hz
       ·exact absurd he hy
       ·exact ih (k + 1) hz
    exact this _ 0 hz hf
  ·obtain ⟨z, hz, he⟩ := List.mem_map.1 h4
   cases hf : Zaz x.target s.links 0 with
   | some v => rw [hf] at h6; cases h6
   | none =>
    have : ∀ (l : List ZaC) (k : Nat), z ∈ l → Zaz x.target l k ≠ none := fun l => by
     induction l with
     | nil => intro k hz; cases hz
     | cons y l ih =>
      intro k hz
      rw [Zaz]
      by_cases hy : y.name = x.target
      ·rw [if_pos hy]; simp
      ·rw [if_neg hy]
       rcases List.mem_cons.1 hz with rfl | hz
       ·exact absurd he hy
       ·exact ih (k + 1) hz
    exact this _ 0 hz hf
theorem loopFault_none {s : Zaf} : ∀ (l : List ZaC) (i : Nat), (∀ x ∈ l, (Zar s (s.links.length + 1) [] x.name).2 = 0) → Za4 s l i = none
 | [], _, _ => rfl
 | x :: l, i, h => by
  rw [Za4, if_neg (by rw [h x List.mem_cons_self]; decide)]
  exact loopFault_none l (i + 1) fun y hy => h y (List.mem_cons_of_mem _ hy)
theorem LkOk.none {s : Zaf} (h : LkOk s) : Zb8 s = none := by
 unfold Zb8
 rw [(ZdK s.zones 0).2 fun j z hj => by rw [Nat.zero_add]; exact h.z j z hj, linkFault_none s.links 0 fun j x hj => by rw [Nat.zero_add]; exact h.l j x hj, loopFault_none s.links 0 h.f]
 rfl
theorem linkFault_get {s : Zaf} : ∀ (l : List ZaC) (i : Nat), ZaS s l i = none → ∀ j x, l[j]? = some x → ZcU x.name = true ∧ Zaw x.name s.zones 0 = none ∧ Zaz x.name s.links 0 = some (i + j) ∧ x.target ∈ nms s
 | [], _, _, j, x, hj => by simp at hj
 | y :: l, i, h, j, x, hj => by
  rw [ZaS] at h
  by_cases h1 : ZcU y.name = false
  ·rw [if_pos h1] at h; cases h
  rw [if_neg h1] at h
  by_cases h2 : (Zaw y.name s.zones 0).isSome ∨ Zaz y.name s.links 0 ≠ some i
  ·rw [if_pos h2] at h; cases h
  rw [if_neg h2] at h
  by_cases h3 : (Zaw y.target s.zones 0).isNone ∧ (Zaz y.target s.links 0).isNone
  ·rw [if_pos h3] at h; cases h
  rw [if_neg h3] at h
  rcases j with _ | j
  ·simp only [List.getElem?_cons_zero, Option.some.injEq] at hj
   subst hj
   refine ⟨by cases hz : ZcU y.name with | true => rfl | false => exact absurd hz h1, ?_, ?_, ?_⟩
   ·cases hf : Zaw y.name s.zones 0 with
    | none => rfl
    | some v => exact absurd (.inl (by rw [hf]; rfl)) h2
   ·by_cases hf : Zaz y.name s.links 0 = some i
    ·exact hf
    ·exact absurd (.inr hf) h2
   ·unfold nms
    rw [List.mem_append]
    cases hf : Zaw y.target s.zones 0 with
    | some v => exact .inl (fstZ_mem _ _ _ hf).2.2
    | none =>
     cases hg : Zaz y.target s.links 0 with
     | some v => exact .inr (fstL_mem _ _ _ hg).2.2
     | none => exact absurd ⟨by rw [hf]; rfl, by rw [hg]; rfl⟩ h3
  ·simp only [List.getElem?_cons_succ] at hj
   obtain ⟨a1, a2, a3, a4⟩ := linkFault_get l (i + 1) h j x hj
   exact ⟨a1, a2, by rw [a3]; congr 1; omega, a4⟩
theorem lkOk_of {s : Zaf} (h : Zb8 s = none) (hf : ∀ x ∈ nms s, (Zar s (s.links.length + 1) [] x).2 = 0) : LkOk s := by
 unfold Zb8 at h
 rw [Option.or_eq_none_iff, Option.or_eq_none_iff] at h
 obtain ⟨h1, h2, _⟩ := h
 refine ⟨fun j z hj => ?_, fun j x hj => ?_, fun x hx => hf _ (List.mem_append_right _ (List.mem_map_of_mem hx))⟩
 ·have := (ZdK s.zones 0).1 h1 j z hj
  rwa [Nat.zero_add] at this
 ·have := linkFault_get s.links 0 h2 j x hj
  rwa [Nat.zero_add] at this
section
variable {a b : Zaf} (ha : a.shifts = []) (hb : b.shifts = []) (hd : ∀ x ∈ nms b, x ∉ nms a)
include ha hb hd
theorem fZ_a {x : ByteArray} (hx : x ∈ nms a) : Zaw x (ZaD a b).zones 0 = Zaw x a.zones 0 := by
 rw [ZaO ha hb]
 dsimp only
 rw [firstZ_app]
 cases Zaw x a.zones 0 with
 | some i => rfl
 | none => exact firstZ_out fun hh => hd x (List.mem_append_left _ hh) hx
theorem fL_a {x : ByteArray} (hx : x ∈ nms a) : Zaz x (ZaD a b).links 0 = Zaz x a.links 0 := by
 rw [ZaO ha hb]
 dsimp only
 rw [firstL_app]
 cases Zaz x a.links 0 with
 | some i => rfl
 | none => exact firstL_out fun hh => hd x (List.mem_append_right _ hh) hx
theorem fZ_b {x : ByteArray} (hx : x ∈ nms b) : Zaw x (ZaD a b).zones 0 = (Zaw x b.zones 0).map (· + a.zones.length) := by
 rw [ZaO ha hb]
 dsimp only
 rw [firstZ_app, firstZ_out fun hh => hd x hx (List.mem_append_left _ hh)]
 dsimp only
 rw [← firstZ_shift]
theorem fL_b {x : ByteArray} (hx : x ∈ nms b) : Zaz x (ZaD a b).links 0 = (Zaz x b.links 0).map (· + a.links.length) := by
 rw [ZaO ha hb]
 dsimp only
 rw [firstL_app, firstL_out fun hh => hd x hx (List.mem_append_right _ hh)]
 dsimp only
 rw [← firstL_shift]
theorem follow_a (hl : LkOk a) : ∀ (f f' : Nat) (seen : List ByteArray) (x : ByteArray), x ∈ nms a → f ≤ f' → (Zar a f seen x).2 = 0 → Zar (ZaD a b) f' seen x = Zar a f seen x
 | 0, _, _, _, _, _, h => by
  rw [Zar] at h
  cases h
 | f + 1, 0, _, _, _, hf, _ => by omega
 | f + 1, f' + 1, seen, x, hx, hf, h => by
  rw [Zar] at h ⊢
  rw [Zar, fZ_a ha hb hd hx]
  cases hz : Zaw x a.zones 0 with
  | some i => rfl
  | none =>
   rw [hz] at h
   dsimp only at h ⊢
   rw [fL_a ha hb hd hx]
   cases hk : Zaz x a.links 0 with
   | none => rfl
   | some i =>
    rw [hk] at h
    dsimp only at h ⊢
    by_cases hm : memB x seen = true
    ·rw [if_pos hm] at h; cases h
    rw [if_neg hm] at h ⊢
    rw [if_neg hm]
    obtain ⟨_, hi, _⟩ := fstL_mem _ _ _ hk
    rw [Nat.zero_add] at hi
    have e1 : (ZaD a b).links[i]? = a.links[i]? := by
     rw [ZaO ha hb]
     exact List.getElem?_append_left hi
    rw [e1]
    obtain ⟨y, hy⟩ : ∃ y, a.links[i]? = some y := ⟨_, List.getElem?_eq_getElem hi⟩
    rw [hy] at h ⊢
    exact follow_a hl f f' _ _ (hl.l i y hy).2.2.2 (by omega) h
theorem follow_b (hl : LkOk b) : ∀ (f f' : Nat) (seen : List ByteArray) (x : ByteArray), x ∈ nms b → f ≤ f' → (Zar b f seen x).2 = 0 → Zar (ZaD a b) f' seen x = ((Zar b f seen x).1 + a.zones.length, 0)
 | 0, _, _, _, _, _, h => by
  rw [Zar] at h
  cases h
 | f + 1, 0, _, _, _, hf, _ => by omega
 | f + 1, f' + 1, seen, x, hx, hf, h => by
  rw [Zar] at h ⊢
  rw [Zar, fZ_b ha hb hd hx]
  cases hz : Zaw x b.zones 0 with
  | some i => rfl
  | none =>
   rw [hz] at h
   dsimp only [Option.map] at h ⊢
   rw [fL_b ha hb hd hx]
   cases hk : Zaz x b.links 0 with
   | none => rw [hk] at h; cases h
   | some i =>
    rw [hk] at h
    dsimp only [Option.map] at h ⊢
    by_cases hm : memB x seen = true
    ·rw [if_pos hm] at h; cases h
    rw [if_neg hm] at h ⊢
    rw [if_neg hm]
    obtain ⟨_, hi, _⟩ := fstL_mem _ _ _ hk
    rw [Nat.zero_add] at hi
    have e1 : (ZaD a b).links[i + a.links.length]? = b.links[i]? := by
     rw [ZaO ha hb]
     dsimp only
     rw [List.getElem?_append_right (by omega), Nat.add_sub_cancel]
    rw [e1]
    obtain ⟨y, hy⟩ : ∃ y, b.links[i]? = some y := ⟨_, List.getElem?_eq_getElem hi⟩
    rw [hy] at h ⊢
    exact follow_b hl f f' _ _ (hl.l i y hy).2.2.2 (by omega) h
theorem merge_lk (h1 : LkOk a) (h2 : LkOk b) : LkOk (ZaD a b) := by
 have ez : (ZaD a b).zones = a.zones ++ b.zones := by rw [ZaO ha hb]
 have el : (ZaD a b).links = a.links ++ b.links := by rw [ZaO ha hb]
 refine ⟨fun j z hj => ?_, fun j x hj => ?_, fun x hx => ?_⟩
 ·rw [ez] at hj
  by_cases hlt : j < a.zones.length
  ·rw [List.getElem?_append_left hlt] at hj
   obtain ⟨p1, p2⟩ := h1.z j z hj
   exact ⟨p1, by rw [fZ_a ha hb hd (List.mem_append_left _ (List.mem_map_of_mem (List.mem_of_getElem? hj)))]; exact p2⟩
  ·rw [List.getElem?_append_right (by omega)] at hj
   obtain ⟨p1, p2⟩ := h2.z _ z hj
   refine ⟨p1, ?_⟩
   rw [fZ_b ha hb hd (List.mem_append_left _ (List.mem_map_of_mem (List.mem_of_getElem? hj))), p2]
   show some (j - a.zones.length + a.zones.length) = some j
   congr 1
   omega
 ·rw [el] at hj
  by_cases hlt : j < a.links.length
  ·rw [List.getElem?_append_left hlt] at hj
   obtain ⟨p1, p2, p3, p4⟩ := h1.l j x hj
   have hm : x.name ∈ nms a := List.mem_append_right _ (List.mem_map_of_mem (List.mem_of_getElem? hj))
   exact ⟨p1, by rw [fZ_a ha hb hd hm]; exact p2, by rw [fL_a ha hb hd hm]; exact p3, (nms_merge ha hb _).2 (.inl p4)⟩
  ·rw [List.getElem?_append_right (by omega)] at hj
   obtain ⟨p1, p2, p3, p4⟩ := h2.l _ x hj
   have hm : x.name ∈ nms b := List.mem_append_right _ (List.mem_map_of_mem (List.mem_of_getElem? hj))
   refine ⟨p1, by rw [fZ_b ha hb hd hm, p2]; rfl, ?_, (nms_merge ha hb _).2 (.inr p4)⟩
   rw [fL_b ha hb hd hm, p3]
   show some (j - a.links.length + a.links.length) = some j
   congr 1
   omega
 ·rw [el] at hx ⊢
  rw [List.length_append]
  rcases List.mem_append.1 hx with hx | hx
  ·have := h1.f x hx
   rw [follow_a ha hb hd h1 _ _ [] _ (List.mem_append_right _ (List.mem_map_of_mem hx)) (by omega) this]
   exact this
  ·have := h2.f x hx
   rw [follow_b ha hb hd h2 _ _ [] _ (List.mem_append_right _ (List.mem_map_of_mem hx)) (by omega) this]
end
theorem bcat_inj {x y m : ByteArray} (h : x ++ m = y ++ m) : x = y := by
 have h1 := congrArg (fun b => b.data.toList) h
 simp at h1
 exact ByteArray.ext h1
theorem bcat_iff {x y m : ByteArray} : x ++ m = y ++ m ↔ x = y := ⟨bcat_inj, fun h => by rw [h]⟩
section
variable (m : ByteArray) (c : Bool)
theorem firstZ_rn (x : ByteArray) : ∀ (l : List ZaN) (k : Nat), Zaw (x ++ m) (l.map (rnZ m c)) k = Zaw x l k
 | [], _ => rfl
 | z :: l, k => by
  rw [List.map_cons, Zaw, Zaw, firstZ_rn x l (k + 1)]
  show (if z.name ++ m = x ++ m then _ else _) = _
  by_cases h : z.name = x
  ·rw [if_pos h, if_pos (by rw [h])]
  ·rw [if_neg h, if_neg fun hh => h (bcat_inj hh)]
theorem firstL_rn (x : ByteArray) : ∀ (l : List ZaC) (k : Nat), Zaz (x ++ m) (l.map (rnL m)) k = Zaz x l k
 | [], _ => rfl
 | z :: l, k => by
  rw [List.map_cons, Zaz, Zaz, firstL_rn x l (k + 1)]
  show (if z.name ++ m = x ++ m then _ else _) = _
  by_cases h : z.name = x
  ·rw [if_pos h, if_pos (by rw [h])]
  ·rw [if_neg h, if_neg fun hh => h (bcat_inj hh)]
theorem memB_rn (x : ByteArray) (seen : List ByteArray) : memB (x ++ m) (seen.map (· ++ m)) = memB x seen := by
 rw [Bool.eq_iff_iff, memB_iff, memB_iff, List.mem_map]
 constructor
 ·rintro ⟨y, hy, he⟩
  rwa [← bcat_inj he]
 ·intro h
  exact ⟨x, h, rfl⟩
theorem follow_rn (a : Zaf) : ∀ (f : Nat) (seen : List ByteArray) (x : ByteArray), Zar (renD a m c) f (seen.map (· ++ m)) (x ++ m) = Zar a f seen x
 | 0, _, _ => rfl
 | f + 1, seen, x => by
  rw [Zar, Zar, show (renD a m c).zones = a.zones.map (rnZ m c) from rfl, firstZ_rn]
  cases Zaw x a.zones 0 with
  | some i => rfl
  | none =>
   dsimp only
   rw [show (renD a m c).links = a.links.map (rnL m) from rfl, firstL_rn]
   cases hk : Zaz x a.links 0 with
   | none => rfl
   | some i =>
    dsimp only
    rw [memB_rn]
    obtain ⟨_, hi, _⟩ := fstL_mem _ _ _ hk
    rw [Nat.zero_add] at hi
    obtain ⟨y, hy⟩ : ∃ y, a.links[i]? = some y := ⟨_, List.getElem?_eq_getElem hi⟩
    rw [List.getElem?_map, hy]
    dsimp only [Option.map, Option.getD]
    split
    ·rfl
    ·exact follow_rn a f (x :: seen) y.target
theorem nms_rn (a : Zaf) : nms (renD a m c) = (nms a).map (· ++ m) := by
 unfold nms renD
 simp [Function.comp_def, rnZ, rnL]
theorem lk_rn {a : Zaf} (h : LkOk a) (hz : ∀ x ∈ nms a, ZcU (x ++ m) = true) : LkOk (renD a m c) := by
 refine ⟨fun j z hj => ?_, fun j x hj => ?_, fun x hx => ?_⟩
 ·rw [show (renD a m c).zones = a.zones.map (rnZ m c) from rfl, List.getElem?_map] at hj
  obtain ⟨y, hy, rfl⟩ := Option.map_eq_some_iff.1 hj
  exact ⟨hz _ (List.mem_append_left _ (List.mem_map_of_mem (List.mem_of_getElem? hy))), (firstZ_rn m c y.name a.zones 0).trans (h.z j y hy).2⟩
 ·rw [show (renD a m c).links = a.links.map (rnL m) from rfl, List.getElem?_map] at hj
  obtain ⟨y, hy, rfl⟩ := Option.map_eq_some_iff.1 hj
  obtain ⟨h1, h2, h3, h4⟩ := h.l j y hy
  exact ⟨hz _ (List.mem_append_right _ (List.mem_map_of_mem (List.mem_of_getElem? hy))), (firstZ_rn m c y.name a.zones 0).trans h2, (firstL_rn m y.name a.links 0).trans h3, by rw [nms_rn]; exact List.mem_map_of_mem h4⟩
 ·rw [show (renD a m c).links = a.links.map (rnL m) from rfl] at hx ⊢
  obtain ⟨y, hy, rfl⟩ := List.mem_map.1 hx
  rw [List.length_map]
  have := follow_rn m c a (a.links.length + 1) [] y.name
  exact (congrArg Prod.snd this).trans (h.f y hy)
end
theorem ofB_rn (m : ByteArray) (l : List Zaa) (x : ByteArray) : ofB (l.map (rnR m)) (x ++ m) = (ofB l x).map (rnR m) := by
 unfold ofB
 rw [List.filter_map]
 congr 1
 refine List.filter_congr fun r _ => ?_
 show decide (r.name ++ m = x ++ m) = decide (r.name = x)
 exact decide_eq_decide.2 bcat_iff
theorem sizes_none {s : Zaf} (h1 : s.rules.length ≤ 2000) (h2 : s.zones.length ≤ 500) (h3 : ∀ z ∈ s.zones, z.eras.length ≤ 60) (h4 : s.links.length ≤ 1000) (h5 : s.shifts = []) : Zeb s = none := by
 have hf : s.zones.findIdx? (fun z => decide (60 < z.eras.length)) = none := by
  rw [List.findIdx?_eq_none_iff]
  intro z hz
  have := h3 z hz
  exact decide_eq_false (by omega)
 unfold Zeb
 rw [if_neg (by omega), if_neg (by omega), hf]
 dsimp only
 rw [if_neg (by omega), if_neg (by rw [h5]; decide)]
structure DrSrc (s : Zaf) : Prop where
 sh : s.shifts = []
 nr : s.rules.length ≤ 30
 nz : 1 ≤ s.zones.length ∧ s.zones.length ≤ 6
 nl : s.links.length ≤ 8
 set : ∀ r ∈ s.rules, ZbO (ofB s.rules r.name) ∧ setB r.name = true
 lk : LkOk s
 er : ∀ z ∈ s.zones, ∃ Y, Zbr s.rules z.eras Y
 fo : ∀ x ∈ nms s, (Zar s (s.links.length + 1) [] x).2 = 0
theorem DrSrc.acc {s : Zaf} (h : DrSrc s) : accD s = none := by
 have hn := h.nr
 have hz := h.nz
 have hl := h.nl
 unfold accD
 rw [sizes_none (by omega) (by omega) (fun z hz => by obtain ⟨Y, hY⟩ := h.er z hz; have := hY.len; omega) (by omega) h.sh, h.lk.none, Zeh _ 0 h.er, h.sh]
 have hs : setsD s = none := Zem _ fun x hx => by
  rcases ZdS _ _ x hx with hh | ⟨r, h1, rfl⟩
  ·cases hh
  ·exact (h.set r h1).1.fault (h.set r h1).2
 rw [hs]
 rfl
theorem DrSrc.mn {s : Zaf} (h : DrSrc s) : MnOk s := mnOk_dr h.acc h.er
theorem nms_iff {s : Zaf} {x : ByteArray} : x ∈ nms s ↔ x ∈ s.zones.map ZaN.name ∨ x ∈ s.links.map ZaC.name := List.mem_append
theorem setN_ok : ∀ i : Fin 3, setB (sN i.val ++ xX) = true := by decide +kernel
theorem zoneX_ok : ∀ x ∈ allN, ZcU (x ++ xX) = true := by decide +kernel
theorem made23_fo (d : DD23) : ∀ x ∈ nms (Zan d), (Zar (Zan d) ((Zan d).links.length + 1) [] x).2 = 0 := fun x hx => by
 obtain ⟨i, z, _, _, _, h⟩ := nm23 d (nms_iff.1 hx)
 exact h
theorem made23_lkOk (d : DD23) : LkOk (Zan d) := lkOk_of (made23_links d) (made23_fo d)
theorem made23_set (d : DD23) : ∀ r ∈ (Zan d).rules, (∃ i : Fin 3, r.name = sN i.val) ∧ ZbO (ofB (Zan d).rules r.name) := fun r hr => by
 obtain ⟨j, h1, h2⟩ := ZcK d.sets d.ns r hr
 have h3 := (ns23 d).2
 refine ⟨⟨⟨j, by omega⟩, h2⟩, ?_⟩
 rw [h2]
 exact (ZdP d.sets d.ns h3 j h1).1
theorem made23_src (d : DD23) : DrSrc (Zan d) where
 sh := rfl
 nr := by have := (small23 d).1; omega
 nz := ⟨made23_zpos d, by have := (small23 d).2.1; omega⟩
 nl := by have := (small23 d).2.2.1; omega
 set r hr := by
  obtain ⟨⟨i, hi⟩, h⟩ := made23_set d r hr
  exact ⟨h, by rw [hi]; exact sN_ok i⟩
 lk := made23_lkOk d
 er := ZbZ d
 fo := made23_fo d
theorem sec_alk (f : DD23) (c : Bool) : ∀ z ∈ (Zan f).zones, ∃ Y, Zbr (renD (Zan f) xX c).rules (onB c (rnE xX) z.eras) Y := fun z hz => by
 obtain ⟨Y, hY⟩ := ZbZ f z hz
 refine ⟨Y, ?_⟩
 cases c with
 | false => exact hY
 | true =>
  refine hY.alk (m := xX) (rnE xX) fun e _ => ?_
  unfold rnE
  by_cases hk : e.kind = 2
  ·rw [if_pos hk]
   exact ⟨rfl, rfl, rfl, rfl, rfl, fun h => absurd hk h, fun _ _ => .inr (ofB_rn xX _ _)⟩
  ·rw [if_neg hk]
   refine ⟨rfl, rfl, rfl, rfl, rfl, fun _ => rfl, fun h0 h1 => ?_⟩
   obtain ⟨k, hk2⟩ := List.mem_iff_getElem?.1 ‹e ∈ z.eras›
   rcases hY.era k e hk2 with ⟨q, _⟩ | ⟨q, _⟩ | ⟨q, _⟩
   ·exact absurd q h0
   ·exact absurd q h1
   ·exact absurd q hk
theorem sec_src (d f : DD23) (common : Bool) : DrSrc (secD d f common) := by
 obtain ⟨s1, s2, s3, s4⟩ := sec_small d f common
 refine ⟨sec_shifts d f common, by omega, ⟨?_, by omega⟩, by omega, fun r hr => ?_, ?_, fun z hz => ?_, fun x hx => ?_⟩
 ·show 1 ≤ ((Zan (ZcA d f common)).zones.map (rnZ xX (!common))).length
  rw [List.length_map]
  exact made23_zpos _
 ·cases common with
  | true => exact (made23_src _).set r hr
  | false =>
   obtain ⟨y, hy, rfl⟩ := List.mem_map.1 (show r ∈ (Zan f).rules.map (rnR xX) from hr)
   obtain ⟨⟨i, hi⟩, h⟩ := made23_set f y hy
   refine ⟨?_, ?_⟩
   ·show ZbO (ofB ((Zan f).rules.map (rnR xX)) (y.name ++ xX))
    rw [ofB_rn]
    exact rn_set h
   ·show setB (y.name ++ xX) = true
    rw [hi]
    exact setN_ok i
 ·exact lk_rn _ _ (made23_lkOk _) fun x hx => zoneX_ok x (nms_all _ x hx)
 ·obtain ⟨y, hy, rfl⟩ := List.mem_map.1 hz
  exact sec_alk _ _ y hy
 ·rw [secD, nms_rn] at hx
  obtain ⟨y, hy, rfl⟩ := List.mem_map.1 hx
  have := follow_rn xX (!common) (Zan (ZcA d f common)) ((Zan (ZcA d f common)).links.length + 1) [] y
  show (Zar (secD d f common) (((Zan (ZcA d f common)).links.map (rnL xX)).length + 1) [] (y ++ xX)).2 = 0
  rw [List.length_map]
  exact (congrArg Prod.snd this).trans (made23_fo _ y hy)
section
variable {a b : Zaf} (ha : DrSrc a) (hb : DrSrc b) (hc : chkB a b = none)
include ha hb hc
theorem mg_set {x : ByteArray} : (ofB a.rules x ≠ [] → ofB (ZaD a b).rules x = ofB a.rules x) ∧ (ofB b.rules x ≠ [] → ofB (ZaD a b).rules x = ofB b.rules x) := by
 obtain ⟨h1, h2⟩ := set_merged ha.sh hb.sh hc x
 refine ⟨fun h => h1 ?_, fun h => h2 ?_⟩
 ·obtain ⟨r, hr⟩ := List.exists_mem_of_ne_nil _ h
  exact ⟨r, (List.mem_filter.1 hr).1, of_decide_eq_true (List.mem_filter.1 hr).2⟩
 ·obtain ⟨r, hr⟩ := List.exists_mem_of_ne_nil _ h
  exact ⟨r, (List.mem_filter.1 hr).1, of_decide_eq_true (List.mem_filter.1 hr).2⟩
theorem mg_alk {s : Zaf} (hs : s = a ∨ s = b) {z : ZaN} (hz : z ∈ s.zones) : ∀ e ∈ z.eras, AlkE xX s.rules (ZaD a b).rules e e := fun e he => by
 refine ⟨rfl, rfl, rfl, rfl, rfl, fun _ => rfl, fun h0 h1 => .inl ?_⟩
 have hne : ofB s.rules e.set ≠ [] := by
  obtain ⟨Y, hY⟩ : ∃ Y, Zbr s.rules z.eras Y := by rcases hs with rfl | rfl; exact ha.er z hz; exact hb.er z hz
  obtain ⟨k, hk⟩ := List.mem_iff_getElem?.1 he
  have hE := hY.era k e hk
  have h2 : e.kind = 2 := by rcases hE with ⟨q, _⟩ | ⟨q, _⟩ | ⟨q, _⟩; exact absurd q h0; exact absurd q h1; exact q
  obtain ⟨_, _, _, hp, _⟩ := hE.set2 h2
  intro hh
  rw [hh] at hp
  simp at hp
 rcases hs with rfl | rfl
 ·exact (mg_set ha hb hc).1 hne
 ·exact (mg_set ha hb hc).2 hne
theorem mg_loc {s : Zaf} (hs : s = a ∨ s = b) {z : ZaN} (hz : z ∈ s.zones) (t : Int) : locAt (ZaD a b).rules z.eras t = locAt s.rules z.eras t := by
 have := locAt_alk (m := xX) (fun e => e) (mg_alk ha hb hc hs hz) t
 rwa [List.map_id'] at this
theorem mg_src (hn : a.rules.length + b.rules.length ≤ 30) (hz : a.zones.length + b.zones.length ≤ 6) (hl : a.links.length + b.links.length ≤ 8) : DrSrc (ZaD a b) := by
 have hd := (chk_none.1 hc).2
 have ez : (ZaD a b).zones = a.zones ++ b.zones := by rw [ZaO ha.sh hb.sh]
 have el : (ZaD a b).links = a.links ++ b.links := by rw [ZaO ha.sh hb.sh]
 have hna := ha.nz
 refine ⟨by rw [ZaO ha.sh hb.sh], ?_, by rw [ez, List.length_append]; omega, by rw [el, List.length_append]; omega, fun r hr => ?_, merge_lk ha.sh hb.sh hd ha.lk hb.lk, fun z hz => ?_, fun x hx => ?_⟩
 ·rw [merged_len]
  have := List.length_filter_le (fun r : Zaa => decide ((ofB a.rules r.name).length = 0)) b.rules
  omega
 ·rw [ZaO ha.sh hb.sh] at hr
  rcases List.mem_append.1 (show r ∈ a.rules ++ _ from hr) with h | h
  ·obtain ⟨h1, h2⟩ := ha.set r h
   rw [(mg_set ha hb hc).1 (List.ne_nil_of_mem (List.mem_filter.2 ⟨h, decide_eq_true rfl⟩))]
   exact ⟨h1, h2⟩
  ·have h := (List.mem_filter.1 h).1
   obtain ⟨h1, h2⟩ := hb.set r h
   rw [(mg_set ha hb hc).2 (List.ne_nil_of_mem (List.mem_filter.2 ⟨h, decide_eq_true rfl⟩))]
   exact ⟨h1, h2⟩
 ·rw [ez] at hz
  rcases List.mem_append.1 hz with h | h
  ·obtain ⟨Y, hY⟩ := ha.er z h
   have := hY.alk (m := xX) (fun e => e) (mg_alk ha hb hc (.inl rfl) h)
   rw [List.map_id'] at this
   exact ⟨Y, this⟩
  ·obtain ⟨Y, hY⟩ := hb.er z h
   have := hY.alk (m := xX) (fun e => e) (mg_alk ha hb hc (.inr rfl) h)
   rw [List.map_id'] at this
   exact ⟨Y, this⟩
 ·rw [el, List.length_append]
  rcases (nms_merge ha.sh hb.sh x).1 hx with h | h
  ·have := ha.fo x h
   rw [follow_a ha.sh hb.sh hd ha.lk _ _ [] _ h (by omega) this]
   exact this
  ·have := hb.fo x h
   rw [follow_b ha.sh hb.sh hd hb.lk _ _ [] _ h (by omega) this]
theorem mg_name (hn : a.rules.length + b.rules.length ≤ 30) (hz : a.zones.length + b.zones.length ≤ 6) (hl : a.links.length + b.links.length ≤ 8) {s : Zaf} (hs : s = a ∨ s = b) {x : ByteArray} (hx : x ∈ nms s) :
  ∃ (i j : Nat) (z : ZaN), zoneD s x = (((i : Nat) : Int), 0) ∧ s.zones[i]? = some z ∧ zoneD (ZaD a b) x = (((j : Nat) : Int), 0) ∧ (ZaD a b).zones[j]? = some z := by
 have hd := (chk_none.1 hc).2
 have hm := mg_src ha hb hc hn hz hl
 have ez : (ZaD a b).zones = a.zones ++ b.zones := by rw [ZaO ha.sh hb.sh]
 have el : (ZaD a b).links.length = a.links.length + b.links.length := by rw [ZaO ha.sh hb.sh, List.length_append]
 have hacc : accD s = none := by rcases hs with rfl | rfl; exact ha.acc; exact hb.acc
 have hlk : LkOk s := by rcases hs with rfl | rfl; exact ha.lk; exact hb.lk
 have hfo := (show ∀ x ∈ nms s, (Zar s (s.links.length + 1) [] x).2 = 0 by rcases hs with rfl | rfl; exact ha.fo; exact hb.fo) x hx
 have hlt : ∀ (f : Nat) (seen : List ByteArray) (x : ByteArray), (Zar s f seen x).2 = 0 → (Zar s f seen x).1 < s.zones.length := fun f => by
  induction f with
  | zero => intro seen x h; rw [Zar] at h; cases h
  | succ f ih =>
   intro seen x h
   rw [Zar] at h ⊢
   cases hz : Zaw x s.zones 0 with
   | some i =>
    have := (fstZ_mem _ _ _ hz).2.1
    rw [Nat.zero_add] at this
    exact this
   | none =>
    rw [hz] at h
    dsimp only at h ⊢
    cases hk : Zaz x s.links 0 with
    | none => rw [hk] at h; cases h
    | some i =>
     rw [hk] at h
     dsimp only at h ⊢
     by_cases hmm : memB x seen = true
     ·rw [if_pos hmm] at h; cases h
     ·rw [if_neg hmm] at h ⊢
      exact ih _ _ h
 have hi := hlt _ _ _ hfo
 obtain ⟨z, hz2⟩ : ∃ z, s.zones[(Zar s (s.links.length + 1) [] x).1]? = some z := ⟨_, List.getElem?_eq_getElem hi⟩
 have e1 : zoneD s x = ((((Zar s (s.links.length + 1) [] x).1 : Nat) : Int), 0) := by
  unfold zoneD
  rw [hacc]
  dsimp only
  rw [hfo]
 rcases hs with rfl | rfl
 ·refine ⟨_, (Zar s (s.links.length + 1) [] x).1, z, e1, hz2, ?_, by rw [ez, List.getElem?_append_left hi]; exact hz2⟩
  unfold zoneD
  rw [hm.acc]
  dsimp only
  rw [el, follow_a ha.sh hb.sh hd ha.lk (s.links.length + 1) _ [] x hx (by omega) hfo, hfo]
 ·refine ⟨_, (Zar s (s.links.length + 1) [] x).1 + a.zones.length, z, e1, hz2, ?_, by rw [ez, List.getElem?_append_right (by omega), Nat.add_sub_cancel]; exact hz2⟩
  unfold zoneD
  rw [hm.acc]
  dsimp only
  rw [el, follow_b ha.sh hb.sh hd hb.lk (s.links.length + 1) _ [] x hx (by omega) hfo]
theorem mg_count {na nb ns : List ByteArray} (h1 : na.Nodup ∧ ∀ x, x ∈ na ↔ x ∈ a.zones.map ZaN.name ∨ x ∈ a.links.map ZaC.name) (h2 : nb.Nodup ∧ ∀ x, x ∈ nb ↔ x ∈ b.zones.map ZaN.name ∨ x ∈ b.links.map ZaC.name) (h3 : ns.Nodup ∧ ∀ x, x ∈ ns ↔ x ∈ (ZaD a b).zones.map ZaN.name ∨ x ∈ (ZaD a b).links.map ZaC.name) : ns.length = na.length + nb.length := by
 have hd := (chk_none.1 hc).2
 rw [← List.length_append]
 refine List.Perm.length_eq ((List.perm_ext_iff_of_nodup h3.1 (List.nodup_append.2 ⟨h1.1, h2.1, fun x hx y hy he => ?_⟩)).2 fun x => ?_)
 ·subst he
  exact hd x (nms_iff.2 ((h2.2 x).1 hy)) (nms_iff.2 ((h1.2 x).1 hx))
 ·rw [h3.2 x, List.mem_append, h1.2 x, h2.2 x, ← nms_iff, ← nms_iff, ← nms_iff]
  exact nms_merge ha.sh hb.sh x
end
theorem sN_sz : ∀ i : Fin 3, (sN i.val ++ xX).size ≤ 100 := by decide +kernel
theorem allN_sz : ∀ x ∈ allN, (x ++ xX).size ≤ 100 := by decide +kernel
theorem sec_sml (d f : DD23) (common : Bool) : Sml (secD d f common) := by
 have h := made23_sml (ZcA d f common)
 have hlk := made23_lkOk (ZcA d f common)
 have hst := made23_set (ZcA d f common)
 have her := ZbZ (ZcA d f common)
 have hnm := nms_all (ZcA d f common)
 unfold secD
 generalize (!common) = c
 generalize Zan (ZcA d f common) = a at *
 refine ⟨?_, ?_, ?_, ?_, fun r hr => ?_, fun z hz => ?_, fun l hl => ?_⟩
 ·show (onB c (rnR xX) a.rules).length ≤ 100
  rw [Zdo]; exact h.nr
 ·show (a.zones.map _).length ≤ 100
  rw [List.length_map]; exact h.nz
 ·show (a.links.map _).length ≤ 100
  rw [List.length_map]; exact h.nl
 ·show (onB c (rnS xX) a.shifts).length ≤ 100
  rw [Zdo]; exact h.ns
 ·cases c with
  | false => exact h.rs r hr
  | true =>
   obtain ⟨y, hy, rfl⟩ := List.mem_map.1 (show r ∈ a.rules.map (rnR xX) from hr)
   obtain ⟨⟨i, hi⟩, _⟩ := hst y hy
   have h2 := (h.rs y hy).2
   exact ⟨by show (y.name ++ xX).size ≤ 100; rw [hi]; exact sN_sz i, h2⟩
 ·obtain ⟨y, hy, rfl⟩ := List.mem_map.1 hz
  obtain ⟨h1, h2, h3⟩ := h.zs y hy
  refine ⟨allN_sz _ (hnm _ (List.mem_append_left _ (List.mem_map_of_mem hy))), by show (onB c (rnE xX) y.eras).length ≤ 100; rw [Zdo]; exact h2, fun e he => ?_⟩
  cases c with
  | false => exact h3 e he
  | true =>
   obtain ⟨x, hx, rfl⟩ := List.mem_map.1 (show e ∈ y.eras.map (rnE xX) from he)
   have h4 := h3 x hx
   unfold rnE
   by_cases hk : x.kind = 2
   ·rw [if_pos hk]
    obtain ⟨Y, hY⟩ := her y hy
    obtain ⟨k, hk2⟩ := List.mem_iff_getElem?.1 hx
    obtain ⟨_, _, _, hp, _⟩ := (hY.era k x hk2).set2 hk
    obtain ⟨r, hr⟩ := List.exists_mem_of_length_pos hp
    have hr1 := (List.mem_filter.1 hr).1
    have hr2 : r.name = x.set := of_decide_eq_true (List.mem_filter.1 hr).2
    obtain ⟨⟨i, hi⟩, _⟩ := hst r hr1
    exact ⟨by show (x.set ++ xX).size ≤ 100; rw [← hr2, hi]; exact sN_sz i, h4.fmt, h4.off, h4.save, h4.kind⟩
   ·rw [if_neg hk]
    exact h4
 ·obtain ⟨y, hy, rfl⟩ := List.mem_map.1 hl
  obtain ⟨k, hk⟩ := List.mem_iff_getElem?.1 hy
  exact ⟨allN_sz _ (hnm _ (hlk.l k y hk).2.2.2), allN_sz _ (hnm _ (List.mem_append_right _ (List.mem_map_of_mem hy)))⟩
theorem mg_sml {a b : Zaf} (h : Sml a) (g : Sml b) (ha : a.shifts = []) (hb : b.shifts = []) (hn : a.rules.length + b.rules.length ≤ 30) (hz : a.zones.length + b.zones.length ≤ 6) (hl : a.links.length + b.links.length ≤ 8) : Sml (ZaD a b) := by
 rw [ZaO ha hb]
 refine ⟨?_, by show (a.zones ++ b.zones).length ≤ 100; rw [List.length_append]; omega, by show (a.links ++ b.links).length ≤ 100; rw [List.length_append]; omega, Nat.zero_le _, fun r hr => ?_, fun z hz => ?_, fun l hl => ?_⟩
 ·show (a.rules ++ b.rules.filter _).length ≤ 100
  rw [List.length_append]
  have := List.length_filter_le (fun r : Zaa => decide ((ofB a.rules r.name).length = 0)) b.rules
  omega
 ·rcases List.mem_append.1 (show r ∈ a.rules ++ _ from hr) with hr | hr
  ·exact h.rs r hr
  ·exact g.rs r (List.mem_filter.1 hr).1
 ·rcases List.mem_append.1 (show z ∈ a.zones ++ b.zones from hz) with hz | hz
  ·exact h.zs z hz
  ·exact g.zs z hz
 ·rcases List.mem_append.1 (show l ∈ a.links ++ b.links from hl) with hl | hl
  ·exact h.ls l hl
  ·exact g.ls l hl
theorem mg_rules (d f : DD23) : (ZaD (Zan d) (secD d f true)).rules.length = max (Zan d).rules.length (secD d f true).rules.length := by
 have e : (secD d f true).rules = (Zan d).rules := rfl
 rw [merged_len, e]
 have : (Zan d).rules.filter (fun r => decide ((ofB (Zan d).rules r.name).length = 0)) = [] := by
  rw [List.filter_eq_nil_iff]
  intro r hr
  rw [decide_eq_true_eq]
  intro h0
  have : r ∈ ofB (Zan d).rules r.name := List.mem_filter.2 ⟨hr, decide_eq_true rfl⟩
  rw [List.length_eq_zero_iff.1 h0] at this
  cases this
 rw [this]
 simp
end Go.Proofs.YtpcpmndldgejiaaGreatDoor
namespace Go.Wk
open Go Go.RowKit
theorem Pu_neEB {P : Program} {n : Nat} {wr : World} {fr : Fr} {O : List It} {ty t t' : TypeId} {α : Type} [DecidableEq α] {enc : α → List Value} {x y : Operand} {i j : α} {b : Bool} [hE : EqE P t α enc] (hx : ev fr x = some (.agg (enc i).toArray)) (hy : ev fr y = some (.agg (enc j).toArray)) (h : (!decide (i = j)) = b) :
  Pu P n wr fr O (.binOp .neq t x y t') ty (.bool b) := h ▸ Pu_neqE hx hy
end Go.Wk
namespace Go.Proofs.YtpcpmndldgejiaaGreatDoor
open Go Go.RowKit Go.Wk
instance : EqE Tryz.prog 47 Zdl Zdl.enc where
 h r s w := by
  unfold Zdl.enc
  simp [go_sem, Zcj]
  rcases r with ⟨_, _, _⟩
  rcases s with ⟨_, _, _⟩
  simp only [ok_ite, Result.ok.injEq, and_true]
  rw [Bool.eq_iff_iff]
  simp [and_assoc]
 g := by kernel_rfl
open Go.Shelf Go.Lib Go.Sort
def strLay_ren : Ren where
 f := fun | 190 => 96 | 125 => 140 | 258 => 139 | 128 => 186 | 129 => 187 | 302 => 177 | 303 => 178 | 304 => 179 | 305 => 180 | 306 => 181 | 307 => 182 | 308 => 183 | 309 => 184 | 310 => 185 | 333 => 208 | 329 => 209 | 330 => 210 | 334 => 211 | 335 => 212 | 336 => 213 | 344 => 235 | n => n
 t := fun | 31 => 32 | 9 => 9 | 3 => 3 | 46 => 243 | 0 => 0 | 51 => 28 | 53 => 27 | 4 => 4 | 183 => 277 | 182 => 276 | 131 => 100 | 5 => 5 | 218 => 306 | 222 => 310 | 228 => 329 | 229 => 330 | n => n
 g := fun n => n
theorem strLay : Lays.n190 Tryz.prog strLay_ren where
 mixed := by kernel_rfl
 f125 := Tryz.func140.trans (congrArg some (by kernel_rfl))
 f128 := Tryz.func186.trans (congrArg some (by kernel_rfl))
 f129 := Tryz.func187.trans (congrArg some (by kernel_rfl))
 f190 := Tryz.func96.trans (congrArg some (by kernel_rfl))
 f258 := Tryz.func139.trans (congrArg some (by kernel_rfl))
 f302 := Tryz.func177.trans (congrArg some (by kernel_rfl))
 f303 := Tryz.func178.trans (congrArg some (by kernel_rfl))
 f304 := Tryz.func179.trans (congrArg some (by kernel_rfl))
 f305 := Tryz.func180.trans (congrArg some (by kernel_rfl))
 f306 := Tryz.func181.trans (congrArg some (by kernel_rfl))
 f307 := Tryz.func182.trans (congrArg some (by kernel_rfl))
 f308 := Tryz.func183.trans (congrArg some (by kernel_rfl))
 f309 := Tryz.func184.trans (congrArg some (by kernel_rfl))
 f310 := Tryz.func185.trans (congrArg some (by kernel_rfl))
 f329 := Tryz.func209.trans (congrArg some (by kernel_rfl))
 f330 := Tryz.func210.trans (congrArg some (by kernel_rfl))
 f333 := Tryz.func208.trans (congrArg some (by kernel_rfl))
 f334 := Tryz.func211.trans (congrArg some (by kernel_rfl))
 f335 := Tryz.func212.trans (congrArg some (by kernel_rfl))
 f336 := Tryz.func213.trans (congrArg some (by kernel_rfl))
 f344 := Tryz.func235.trans (congrArg some (by kernel_rfl))
 t0 := Tryz.underlying0
 a0 := Tryz.isAgg0
 z0 := Tryz.sizeOf0
 v0 := Tryz.zeroValue0
 t3 := Tryz.underlying3
 a3 := Tryz.isAgg3
 z3 := Tryz.sizeOf3
 v3 := Tryz.zeroValue3
 t4 := Tryz.underlying4
 a4 := Tryz.isAgg4
 z4 := Tryz.sizeOf4
 v4 := Tryz.zeroValue4
 t5 := Tryz.underlying5
 a5 := Tryz.isAgg5
 z5 := Tryz.sizeOf5
 v5 := Tryz.zeroValue5
 t9 := Tryz.underlying9
 a9 := Tryz.isAgg9
 z9 := Tryz.sizeOf9
 v9 := Tryz.zeroValue9
 t31 := Tryz.underlying32
 a31 := Tryz.isAgg32
 z31 := Tryz.sizeOf32
 v31 := Tryz.zeroValue32
 t46 := Tryz.underlying243
 a46 := Tryz.isAgg243
 z46 := Tryz.sizeOf243
 v46 := Tryz.zeroValue243
 t51 := Tryz.underlying28
 a51 := Tryz.isAgg28
 z51 := Tryz.sizeOf28
 v51 := Tryz.zeroValue28
 t53 := Tryz.underlying27
 a53 := Tryz.isAgg27
 z53 := Tryz.sizeOf27
 v53 := Tryz.zeroValue27
 t131 := Tryz.underlying100
 a131 := Tryz.isAgg100
 z131 := Tryz.sizeOf100
 v131 := Tryz.zeroValue100
 t182 := Tryz.underlying276
 a182 := Tryz.isAgg276
 z182 := Tryz.sizeOf276
 v182 := Tryz.zeroValue276
 t183 := Tryz.underlying277
 a183 := Tryz.isAgg277
 z183 := Tryz.sizeOf277
 v183 := Tryz.zeroValue277
 t218 := Tryz.underlying306
 a218 := Tryz.isAgg306
 z218 := Tryz.sizeOf306
 v218 := Tryz.zeroValue306
 t222 := Tryz.underlying310
 a222 := Tryz.isAgg310
 z222 := Tryz.sizeOf310
 v222 := Tryz.zeroValue310
 t228 := Tryz.underlying329
 a228 := Tryz.isAgg329
 z228 := Tryz.sizeOf329
 v228 := Tryz.zeroValue329
 t229 := Tryz.underlying330
 a229 := Tryz.isAgg330
 z229 := Tryz.sizeOf330
 v229 := Tryz.zeroValue330
end Go.Proofs.YtpcpmndldgejiaaGreatDoor
