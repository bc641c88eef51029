/- Contracts: slices.AppendSeq at maps.Keys. Contracts: analemmalaw33.few, analemmaref33.has, zone; analemmalaw13.SameSource. Contracts: cmp.Less, slices.insertionSortOrdered, pdqsortOrdered (short lists), math/bits.Len, slices.Sort at string. Contracts: slices.pdqsortOrdered (short lists), slices.Sort, slices.Compact at string. Contract: analemmaref33.Without. Contracts: keep.counted, keep.Names. Contract: analemmaref33.Names. The plain law: the kept names of the program are the document's. Contracts: slices.Sorted at maps.Keys, links.Names. -/
import Derived.Test.YtonjepladadmhaaGreatDoorS17
import Derived.Test.YtonjepladadmhaaGreatDoorS39
import Derived.Test.YtonjepladadmhaaGreatDoorS12
import Derived.Test.YtonjepladadmhaaGreatDoorS08
import Derived.Test.YtonjepladadmhaaGreatDoorS09
import Derived.Test.YtonjepladadmhaaGreatDoorS16
set_option maxHeartbeats 4000000
set_option linter.unusedVariables false
set_option linter.unusedSimpArgs false
set_option maxHeartbeats 4000000
set_option maxRecDepth 20000
namespace Go.Proofs.YtonjepladadmhaaGreatDoor
open Go Go.RowKit Go.Wk
attribute [local irreducible] W RL Does thenQ blockQ retQ Calls Pu Stp RD Qy Ay DoesIn RLI WI
def KeysR (m : List (ByteArray × Value)) (v : Value) (O : List It) : Prop := ∃ (A : Option Addr) (c : Nat) (d : List (ByteArray × Value)), d.Perm m ∧ v = .slice A (d.map (·.1)).length c ∧ (d.map (·.1)).length ≤ c ∧ c ≤ maxLen ∧ (0 < (d.map (·.1)).length → A ≠ none) ∧ O = [.row (.slice A (d.map (·.1)).length c) 9 1 (d.map (·.1)).length ((d.map (·.1)).flatMap strEnc)]
def seqR (m : List (ByteArray × Value)) (wr : World) : Ending → World → Prop := fun e w' => ∃ v O, e = .returned v ∧ Bel wr.heap.size wr w' ∧ Holds wr.heap.size O w' ∧ KeysR m v O
theorem seq_leave (m : List (ByteArray × Value)) (wr : World) {fr : Fr} {O R : List It} {a : Act} {w' : World} {D : Nat} {v : Value} (hs : St 13 wr fr (DefIt D :: O) a w') (h2 : Wk.look fr 4 = some v) (hO : SubO R O) (hR : KeysR m v R) :
  bodyPostM Fence.wide 0 Tryz.prog Tryz.f181 (seqR m wr) .ret (actD (markD D) a) w' := by
 have hK := DefIt.at (hs.own.sat _ List.mem_cons_self)
 have hs2 := turn_def hs
 refine ⟨by simp, .inl ⟨_, _, rfl, run_takeDeferred hK, ?_⟩⟩
 refine ⟨v, ?_, _, R, rfl, hs2.old, hs2.own.sub hO, hR⟩
 have hres : Tryz.f181.results = [ResultVar.tmp 4].toArray := rfl
 show (results Tryz.f181 a.tmps).run Tryz.prog _ = _
 unfold results
 rw [hres, List.mapM_toArray]
 simp only [Sem.run_bind, Sem.run_map]
 rw [run_results (P := Tryz.prog) hs2 _ (fun _ => rfl) (fun _ _ => rfl) [ResultVar.tmp 4] [v] ⟨_, [], rfl, h2, rfl⟩]
 simp only [Result.andThen_ok, Sem.run_pure]
 rfl
abbrev SQ := Option Addr × Nat × List ByteArray
abbrev seqO (l D bs : Nat) (r : Loop) (s : SQ) : List It := [LoopIt l r, DefIt D, .blk bs [.slice s.1 s.2.2.length s.2.1] 43, .row (.slice s.1 s.2.2.length s.2.1) 9 1 s.2.2.length (s.2.2.flatMap strEnc)]
theorem appendSeq_spec (bx b : Nat) (m : List (ByteArray × Value)) (hm : m.length ≤ 1000000) (wr : World) :
  DoesIn Tryz.prog 181 [.slice none 0 0, .func (.func 141) #[] #[.pointer (some ⟨bx, 0, none⟩)]] wr [.blk bx [.map (some b)] 168, .mp b m] (KeysR m) := by
 unfold DoesIn
 intro w0 hB0 hH0
 refine DoesIn_marks Tryz.func181 rfl rfl rfl hB0 hH0 ?_
 intro a0 hst
 -- Does_of_W Tryz.func181
 refine pre_seq (fun fr' O' => ∃ bs, Sub [(1, .func (.func 141) #[] #[.pointer (some ⟨bx, 0, none⟩)]), (2, .pointer (some ⟨bs, 0, none⟩))] fr' ∧ SubO [.blk bs [.slice none 0 0] 43, .row (.slice none 0 0) 9 1 0 [], .blk bx [.map (some b)] 168, .mp b m] O') ?_ ?_ a0 w0 hst
 ·refine W_nil 9 1 ?_
  apply W_region
  apply RL_st; rfl; (apply Stp_boxNf; rfl; (focus repeat' constructor); intro bs)
  apply RL_pu; rfl; (apply Pu_assign; rfl)
  apply RL_nil
  exact ⟨rfl, bs, SFA, SOA⟩
 rintro a1 w1 fr1 O1 hs0 ⟨bs, hf1, hO1⟩
 have hs1 := hs0.sub hf1 hO1
 clear hf1 hO1 hs0 hst a0 fr1 O1
 refine wp_seq ?_
 refine pre_seq (fun fr' O' => Sub [(2, .pointer (some ⟨bs, 0, none⟩)), (6, .func (.func 141) #[] #[.pointer (some ⟨bx, 0, none⟩)])] fr' ∧ SubO [.blk bs [.slice none 0 0] 43, .row (.slice none 0 0) 9 1 0 [], .blk bx [.map (some b)] 168, .mp b m] O') ?_ ?_ a1 w1 hs1
 ·apply W_region
  apply RL_pu; rfl; (apply Pu_move; rfl)
  apply RL_nil
  exact ⟨rfl, SFA, SOA⟩
 rintro a2 w2 fr2 O2 hs0 ⟨hf2, hO2⟩
 have hs2 := hs0.sub hf2 hO2
 clear hf2 hO2 hs0 hs1 a1 w1 fr2 O2
 refine wp_block ?_
 refine range_wp (gf := 141) (lb := [.pointer (some ⟨bx, 0, none⟩)]) (fun jump O2 => jump = none ∧ ∃ s : SQ, ∃ d : List (ByteArray × Value), d.Perm m ∧ s.2.2 = d.map (·.1) ∧ s.2.2.length ≤ s.2.1 ∧ s.2.1 ≤ maxLen ∧ (0 < s.2.2.length → s.1 ≠ none) ∧ SubO [.blk bs [.slice s.1 s.2.2.length s.2.1] 43, .row (.slice s.1 s.2.2.length s.2.1) 9 1 s.2.2.length (s.2.2.flatMap strEnc)] O2) hs2 rfl ?_ ?_
 ·intro fn l D
  generalize hr : recOf fn a2.tmps 7 _ _ D = r
  have hit := keysIt_spec l bx b m (seqO l D bs r) (fun d (s : SQ) => s.2.2 = d.map (·.1) ∧ s.2.2.length ≤ s.2.1 ∧ s.2.1 ≤ maxLen ∧ (0 < s.2.2.length → s.1 ≠ none)) wr (none, 0, []) ⟨rfl, Nat.le_refl _, by simp [maxLen], by simp⟩ ?_
  ·refine hit.sub SOA fun v O' ⟨_, d, s, h1, ⟨h2, h3, h4, h5⟩, h6⟩ => ?_
   exact ⟨none, _, .ready, SubO.trans (by rw [← hr]; exact SOA) h6, by decide, rfl, s, d, h1, h2, h3, h4, h5, .refl _⟩
  ·rintro d kv ⟨A, c, x⟩ X Y hlt ⟨h2, h3, h4, h5⟩
   dsimp only at h2 h3 h4 h5
   have hxl : x.length < 1000000 := by rw [h2, List.length_map]; omega
   refine yields_round (r := r) (p := 7) (fr := [(2, .pointer (some ⟨bs, 0, none⟩)), (6, .func (.func 141) #[] #[.pointer (some ⟨bx, 0, none⟩)])]) (a0 := a2) (O1 := [X, Y, LoopIt l { r with state := .busy }, DefIt D, .blk bs [.slice A x.length c] 43, .row (.slice A x.length c) 9 1 x.length (x.flatMap strEnc)]) (by rw [← hr]; rfl) (by rw [← hr]; rfl) (by rw [← hr]; rfl) hs2.sim rfl (by repeat' constructor) (by rw [← hr]; rfl) ?_
   apply RLI_pu (Or.inr ⟨_, rfl⟩); rfl; (intro c h; cases h); (apply Pu_assign; rfl)
   refine RLI_nil ⟨rfl, ?_⟩
   have hbody : ∀ Q fr O, (∀ b : Code, b = r.body → WI (Fence.wide.inRound l) [] Tryz.prog 13 wr b Q fr O) → WI (Fence.wide.inRound l) [] Tryz.prog 13 wr r.body Q fr O := fun Q fr O h => h _ rfl
   refine hbody _ _ _ fun b hb => ?_
   rw [← hr] at hb
   dsimp only [recOf] at hb
   subst hb
   refine WI_block (WI_region ?_)
   apply RLI_pu (Or.inr ⟨_, rfl⟩); rfl; (intro c h; cases h); (apply Pu_loadB1; rfl; (focus repeat' constructor); rfl)
   apply RLI_pu (Or.inr ⟨_, rfl⟩); rfl; (intro c h; cases h); (apply Pu_move; rfl)
   apply RLI_st (Or.inr ⟨_, rfl⟩); (intro d hd; cases hd; rfl); (intro c h; cases h); (intro a w hs; apply calm_buildSlice)
   apply Stp_buildSlice; rfl; rfl; rfl; intro bq
   apply RLI_st (Or.inr ⟨_, rfl⟩); (intro d hd; cases hd; rfl); (intro c h; cases h); (intro a w hs; apply calm_append)
   apply Stp_append; rfl; rfl; (intro A' c'; (focus repeat' constructor)); (intro w' _ hO; exact blkRaw (hO.of (by repeat' constructor))); rfl; rfl; (simp only [maxLen]; omega); omega; intro A' c' hc1 hc2 hc3
   apply RLI_st (Or.inr ⟨_, rfl⟩); (intro d hd; cases hd); (intro c h; cases h); (intro a w hs; exact calm_store a w)
   (apply Stp_storeNf; rfl; rfl; (focus repeat' constructor); (focus repeat (first | exact Nf.nil | apply Nf.cons)); rfl; rfl; rfl; (focus repeat' constructor))
   refine RLI_nil ?_
   refine blockQ_n ?_
   have hl1 : (x ++ [kv.1]).length = x.length + 1 := by simp
   refine ⟨_, (by repeat' constructor), rfl, (A', c', x ++ [kv.1]), ⟨by rw [h2]; simp, by dsimp only; omega, hc2, fun _ => hc3 (by omega)⟩, ?_⟩
   dsimp only [seqO]
   rw [hl1, ← flat_snoc, ← hr]
   exact SOA
 ·rintro jump O2 D w4 ⟨rfl, ⟨A, c, x⟩, d, h1, h2, h3, h4, h5, hsub⟩ hs4
  dsimp only at h2 h3 h4 h5 hsub
  subst h2
  have hs5 : St 13 wr [(2, .pointer (some ⟨bs, 0, none⟩))] [DefIt D, .blk bs [.slice A (d.map (·.1)).length c] 43, .row (.slice A (d.map (·.1)).length c) 9 1 (d.map (·.1)).length ((d.map (·.1)).flatMap strEnc)] a2 w4 := hs4.sub SFA (.cons .here hsub)
  show (Code.seq _ _).wp _ _ _ _
  have key : ∀ c' Q' Q3, WI Fence.wide (markD D) Tryz.prog 13 wr c' Q' [(2, .pointer (some ⟨bs, 0, none⟩))] [DefIt D, .blk bs [.slice A (d.map (·.1)).length c] 43, .row (.slice A (d.map (·.1)).length c) 9 1 (d.map (·.1)).length ((d.map (·.1)).flatMap strEnc)] → (∀ e a' w', liftI (markD D) 13 wr Q' e a' w' → Q3 e a' w') → c'.wp Tryz.prog Q3 (actD (markD D) a2) w4 := fun c' Q' Q3 h hq => (wpIn_wide (n := 0)).1 (wpIn_mono (h.at hs5) hq)
  refine key _ (fun e fr O => e = .ret ∧ Sub [(4, .slice A (d.map (·.1)).length c)] fr ∧ SubO [DefIt D, .row (.slice A (d.map (·.1)).length c) 9 1 (d.map (·.1)).length ((d.map (·.1)).flatMap strEnc)] O) _ (WI_seq (WI_region ?_)) ?_
  ·apply RLI_pu (.inl rfl); rfl; (intro c h; cases h); (apply Pu_loadB1; rfl; (focus repeat' constructor); rfl)
   apply RLI_pu (.inl rfl); rfl; (intro c h; cases h); (apply Pu_assign; rfl)
   refine RLI_nil ?_
   refine thenQ_n ?_
   refine WI_ret ?_
   exact ⟨rfl, SFA, SOA⟩
  ·rintro e a' w' ⟨hd, fr', O', hs', rfl, hf, hO⟩
   have h := seq_leave m wr (hs'.sub hf hO) rfl (.refl _) ⟨A, c, d, h1, rfl, h3, h4, h5, rfl⟩
   rw [actD_back hd] at h
   exact h
end Go.Proofs.YtonjepladadmhaaGreatDoor
namespace Go.Proofs.YtonjepladadmhaaGreatDoor
open Go Go.RowKit Go.Wk
attribute [local irreducible] W RL Does thenQ blockQ retQ Calls Pu Stp RD Qy Ay
end Go.Proofs.YtonjepladadmhaaGreatDoor
namespace Go.Proofs.YtonjepladadmhaaGreatDoor
open Go Go.RowKit Go.Wk
attribute [local irreducible] W RL Does thenQ blockQ retQ Calls Pu Stp RD Qy Ay DoesIn
def lessB (x y : ByteArray) : Bool := Op.bytesLess x.toList y.toList
theorem isNaN_spec (x : ByteArray) (w : World) : Does Tryz.prog 229 [.string x] w (fun v O => v = .bool false ∧ O = []) := by
 refine Does_of_W Tryz.func229 rfl rfl rfl rfl ?_
 repeat (first | refine walk ?_)
 exact ret_1 _ [] (.tmp rfl) .nil ⟨by simp, rfl⟩
theorem less_spec (x y : ByteArray) (w : World) : Does Tryz.prog 213 [.string x, .string y] w (fun v O => v = .bool (lessB x y) ∧ O = []) := by
 refine Does_of_W Tryz.func213 rfl rfl rfl rfl ?_
 repeat (first | (refine js ?_; (refine callE (fun w' _ => isNaN_spec x w') ?_)) | refine walk ?_)
 exact rtA
set_option maxRecDepth 100000 in
theorem len64_spec (x : Int) (h0 : 0 ≤ x) (h1 : x ≤ 255) (w : World) : Does Tryz.prog 154 [.int .u64 x] w (fun v O => (∃ i, v = .int .i64 i) ∧ O = []) := by
 refine Does_of_W Tryz.func154 rfl rfl rfl rfl ?_
 repeat (first | refine walk ?_)
 refine W_cond rfl (fun g1 => absurd g1 (by simp; omega)) (fun _ => ?_)
 repeat (first | refine walk ?_)
 refine W_cond rfl (fun g1 => absurd g1 (by simp; omega)) (fun _ => ?_)
 repeat (first | refine walk ?_)
 refine W_cond rfl (fun g1 => absurd g1 (by simp; omega)) (fun _ => ?_)
 repeat (first | refine walk ?_)
 have hw : IntKind.u8.wrap x = x := by simp [IntKind.wrap, IntKind.signed, IntKind.bits]; omega
 refine RL_re 21 (.int .u8 x) rfl (by rw [hw]) ?_
 repeat (first | (apply RL_pu; rfl; (first | (apply Pu_indexS; rfl; rfl; omega; (show x < ((256 : Nat) : Int); omega)) | (apply Pu_addW; rfl; rfl))) | refine walk1 ?_)
 exact ret_1 _ [] (.tmp rfl) .nil ⟨⟨_, rfl⟩, rfl⟩
theorem blen_spec (x : Int) (h0 : 0 ≤ x) (h1 : x ≤ 255) (w : World) : Does Tryz.prog 99 [.int .u64 x] w (fun v O => (∃ i, v = .int .i64 i) ∧ O = []) := by
 refine Does_of_W Tryz.func99 rfl rfl rfl rfl ?_
 repeat (first | (refine js ?_; (apply Stp_call (h := fun w' _ _ => len64_spec x h0 h1 w'); rfl; rintro v O' ⟨⟨i, rfl⟩, rfl⟩)) | refine walk ?_)
 exact ret_1 _ [] (.tmp rfl) .nil ⟨⟨_, rfl⟩, rfl⟩
def putAt (P : List ByteArray) (x : ByteArray) (j : Nat) : List ByteArray := P.take j ++ x :: P.drop j
def insB (P : List ByteArray) (x : ByteArray) : Nat → List ByteArray
 | 0 => putAt P x 0
 | j + 1 => if lessB x (P.getD j ByteArray.empty) then insB P x j else putAt P x (j + 1)
def sortB (l : List ByteArray) : List ByteArray := l.foldl (fun P x => insB P x P.length) []
theorem putAt_len (P : List ByteArray) (x : ByteArray) (j : Nat) : (putAt P x j).length = P.length + 1 := by
 simp [putAt]; omega
theorem insB_len (P : List ByteArray) (x : ByteArray) : ∀ j, (insB P x j).length = P.length + 1
 | 0 => putAt_len P x 0
 | j + 1 => by
  rw [insB]
  split
  ·exact insB_len P x j
  ·exact putAt_len P x (j + 1)
theorem str_get (L : List ByteArray) (p : Nat) : (L.flatMap strEnc)[p]? = (L[p]?).map Value.string := by
 induction L generalizing p with
 | nil => simp
 | cons y L ih =>
  cases p with
  | zero => simp [strEnc]
  | succ p => simp only [List.flatMap_cons, strEnc, List.singleton_append, List.getElem?_cons_succ]; exact ih p
theorem str_set (L : List ByteArray) (p : Nat) (y : ByteArray) : (L.flatMap strEnc).set p (.string y) = (L.set p y).flatMap strEnc := by
 induction L generalizing p with
 | nil => simp
 | cons z L ih =>
  cases p with
  | zero => simp [strEnc]
  | succ p => simp only [List.flatMap_cons, strEnc, List.singleton_append, List.set_cons_succ]; rw [← ih p]
theorem str_len (L : List ByteArray) : (L.flatMap strEnc).length = L.length := by
 have := flat_len strEnc.len L
 omega
theorem putAt_here (P R : List ByteArray) (x : ByteArray) (j : Nat) (hj : j ≤ P.length) : (putAt P x j ++ R)[j]? = some x := by
 rw [List.getElem?_append_left (by rw [putAt_len]; omega), putAt, List.getElem?_append_right (by rw [List.length_take]; omega), List.length_take, show j - min j P.length = 0 from by omega]
 rfl
theorem putAt_before (P R : List ByteArray) (x : ByteArray) (j : Nat) (hj : j < P.length) : (putAt P x (j + 1) ++ R)[j]? = some (P.getD j ByteArray.empty) := by
 rw [List.getElem?_append_left (by rw [putAt_len]; omega), putAt, List.getElem?_append_left (by rw [List.length_take]; omega), List.getElem?_take, if_pos (by omega), List.getD_eq_getElem?_getD, List.getElem?_eq_getElem hj]
 rfl
theorem putAt_swap (P R : List ByteArray) (x : ByteArray) (j : Nat) (hj : j < P.length) : ((putAt P x (j + 1) ++ R).set (j + 1) (P.getD j ByteArray.empty)).set j x = putAt P x j ++ R := by
 have hg : P.getD j ByteArray.empty = P[j] := by rw [List.getD_eq_getElem?_getD, List.getElem?_eq_getElem hj]; rfl
 apply List.ext_getElem?
 intro i
 have hlen : (putAt P x (j + 1) ++ R).length = P.length + 1 + R.length := by rw [List.length_append, putAt_len]
 rw [List.getElem?_set, List.getElem?_set, List.length_set, hlen]
 by_cases h1 : j = i
 ·subst h1
  rw [if_pos rfl, if_pos (by omega), putAt_here P R x j (by omega)]
 ·rw [if_neg h1]
  by_cases h2 : j + 1 = i
  ·subst h2
   rw [if_pos rfl, if_pos (by omega), List.getElem?_append_left (by rw [putAt_len]; omega), putAt, List.getElem?_append_right (by rw [List.length_take]; omega), List.length_take, show j + 1 - min j P.length = 1 from by omega, List.getElem?_cons_succ, List.getElem?_drop, List.getElem?_eq_getElem (by omega), hg]
   simp
  ·rw [if_neg h2]
   by_cases h3 : i < j
   ·rw [List.getElem?_append_left (by rw [putAt_len]; omega), List.getElem?_append_left (by rw [putAt_len]; omega), putAt, putAt, List.getElem?_append_left (by rw [List.length_take]; omega), List.getElem?_append_left (by rw [List.length_take]; omega), List.getElem?_take, List.getElem?_take, if_pos (by omega), if_pos (by omega)]
   ·by_cases h4 : i < P.length + 1
    ·rw [List.getElem?_append_left (by rw [putAt_len]; omega), List.getElem?_append_left (by rw [putAt_len]; omega), putAt, putAt, List.getElem?_append_right (by rw [List.length_take]; omega), List.getElem?_append_right (by rw [List.length_take]; omega), List.length_take, List.length_take, show i - min (j + 1) P.length = (i - j - 2) + 1 from by omega, show i - min j P.length = (i - j - 1) + 1 from by omega, List.getElem?_cons_succ, List.getElem?_cons_succ, List.getElem?_drop, List.getElem?_drop, show j + 1 + (i - j - 2) = j + (i - j - 1) from by omega]
    ·rw [List.getElem?_append_right (by rw [putAt_len]; omega), List.getElem?_append_right (by rw [putAt_len]; omega), putAt_len, putAt_len]
theorem foldl_snoc (l : List ByteArray) (i : Nat) (hi : i < l.length) : sortB (l.take (i + 1)) = insB (sortB (l.take i)) l[i] (sortB (l.take i)).length := by
 rw [← List.take_append_getElem hi, sortB, List.foldl_append]
 rfl
theorem sortB_len (l : List ByteArray) : ∀ i, i ≤ l.length → (sortB (l.take i)).length = i
 | 0, _ => by simp [sortB]
 | i + 1, h => by rw [foldl_snoc l i (by omega), insB_len, sortB_len l i (by omega)]
theorem wkKeepS0 {G G' : Prop} (k : G') (h : Hold G' → G := by intro k9; (first | refine walk ?_ | (refine jn ?_; (try intro F); (first | (refine stA ?_) | (apply Stp_pu; exact PuA)); refine fin ?_)); exact k9.out) : G := h ⟨k⟩
theorem PuKeepS1 {G : Prop} (h : G := by (first | (apply Pu_indexAddr; rfl; rfl; omega; omega; exact hAn) | (apply Pu_loadR; rfl; (focus repeat' constructor); first | exact hx1 | exact hx2))) : G := h
theorem QyKeepS1 {G : Prop} (h : G := by first | (apply Qy_y; rfl; exact PuKeepS1) | exact QyA) : G := h
theorem QFKeepS1 {G : Prop} (h : G := by repeat (first | exact QF.nil | (apply QF.mk; rfl; rfl; decide +kernel; exact QyKeepS1))) : G := h
set_option maxHeartbeats 4000000 in
theorem insertion_spec (A : Option Addr) (c : Nat) (l : List ByteArray) (wr : World) (R : List It) (hn : l.length ≤ 1000000) (hAn : 0 < l.length → A ≠ none) :
  DoesIn Tryz.prog 207 [.slice A l.length c, .int .i64 0, .int .i64 l.length] wr (rowS A c l :: R) (fun _ O => O = rowS A c (sortB l) :: R) := by
 refine DoesIn_of_W Tryz.func207 rfl rfl rfl rfl ?_
 repeat refine wkKeepS0 ?_
 refine W_loopF [(0, _), (1, _), (2, _)] R (fun i : Nat => [(6, .int .i64 i)]) (fun i => [.row (.slice A l.length c) 9 1 l.length ((sortB (l.take i) ++ l.drop i).flatMap strEnc)]) (fun i => 1 ≤ i ∧ i ≤ l.length + 1) (fun i => l.length + 1 - i) 1 SFA (by
   have e : sortB (l.take 1) ++ l.drop 1 = l := by
    cases l with
    | nil => rfl
    | cons x l => rfl
   rw [e]
   exact .refl _) ⟨Nat.le_refl _, by omega⟩ ?_
 rintro i ⟨hi1, hi2⟩
 repeat refine wkKeepS0 ?_
 refine W_cond rfl (fun g1 => ?_) (fun g1 => ?_)
 ·simp only [decide_eq_true_eq] at g1
  have hil : i < l.length := by omega
  have hAn := hAn (by omega)
  have hPl := sortB_len l i (by omega)
  have hfs := foldl_snoc l i hil
  have hdr : sortB (l.take i) ++ l.drop i = putAt (sortB (l.take i)) l[i] i ++ l.drop (i + 1) := by
   generalize sortB (l.take i) = Q at *
   rw [putAt, List.take_of_length_le (l := Q) (by omega), List.drop_of_length_le (l := Q) (by omega), drop_cons hil]
   simp
  rw [hPl] at hfs
  rw [hdr]
  generalize sortB (l.take i) = Q at *
  generalize l[i] = x at *
  generalize hrest : l.drop (i + 1) = rest at *
  have hrl : rest.length = l.length - (i + 1) := by rw [← hrest, List.length_drop]
  repeat refine wkKeepS0 ?_
  refine W_loopF [(0, _), (1, _), (2, _), (6, _)] R (fun j : Nat => [(7, .int .i64 j)]) (fun j => [.row (.slice A l.length c) 9 1 l.length ((putAt Q x j ++ rest).flatMap strEnc)]) (fun j => j ≤ i ∧ insB Q x j = insB Q x i) (fun j => j) i SFA (.refl _) ⟨Nat.le_refl _, rfl⟩ ?_
  rintro j ⟨hj, hins⟩
  repeat refine wkKeepS0 ?_
  refine RD_split 19 rfl (fun g2 => ?_) (fun g2 => ?_)
  ·simp only [decide_eq_true_eq] at g2
   obtain ⟨j, rfl⟩ : ∃ j', j = j' + 1 := ⟨j - 1, by omega⟩
   have hjQ : j < Q.length := by omega
   have hx1 : ((putAt Q x (j + 1) ++ rest).flatMap strEnc)[(((j + 1 : Nat) : Int)).toNat * 1]? = some (.string x) := by
    rw [show (((j + 1 : Nat) : Int)).toNat * 1 = j + 1 from by omega, str_get, putAt_here Q rest x (j + 1) (by omega)]; rfl
   have hx2 : ((putAt Q x (j + 1) ++ rest).flatMap strEnc)[(((j + 1 : Nat) : Int) - 1).toNat * 1]? = some (.string (Q.getD j ByteArray.empty)) := by
    rw [show (((j + 1 : Nat) : Int) - 1).toNat * 1 = j from by omega, str_get, putAt_before Q rest x j (by omega)]; rfl
   have hsw := putAt_swap Q rest x j hjQ
   have hll : (putAt Q x (j + 1) ++ rest).length = l.length := by rw [List.length_append, putAt_len]; omega
   rw [insB] at hins
   generalize Q.getD j ByteArray.empty = y at *
   repeat (first | (apply RL_pu; rfl; exact PuKeepS1) | (apply RD_Q; rfl; rfl; decide +kernel; rfl; rfl; exact QyKeepS1) | refine walk1 ?_ | (refine jg ?_; (try intro F); (first | (refine callE (fun w' _ => less_spec x y w') ?_) | (refine stA ?_)); first | refine ⟨_, EndsA, QFKeepS1, ?_⟩ | refine fin ?_) | (refine jn ?_; (try intro F); (first | (refine stA ?_) | (apply Stp_pu; first | exact PuKeepS1 | exact PuA)); first | refine ⟨_, EndsA, QFKeepS1, ?_⟩ | refine fin ?_))
   refine W_cond rfl (fun g3 => ?_) (fun g3 => ?_)
   ·rw [if_pos g3] at hins
    repeat (first | (apply RL_pu; rfl; exact PuKeepS1) | (refine js ?_; (apply Stp_storeR; rfl; rfl; (focus repeat' constructor); rfl; rfl; rfl; (simp only [lay_length, str_len, hll]; omega); decide; rfl)) | (apply RD_Q; rfl; rfl; decide +kernel; rfl; rfl; exact QyKeepS1) | refine walk1 ?_ | (refine RD_Lw ?_; intro F; (first | (apply Stp_storeR; rfl; rfl; (focus repeat' constructor); rfl; rfl; rfl; (simp only [lay_length, str_len, hll]; omega); decide; rfl) | (refine stA ?_) | (apply Stp_pu; first | exact PuKeepS1 | exact PuA)); refine ⟨_, EndsA, QFKeepS1, ?_⟩))
    have hfin : lay (lay ((putAt Q x (j + 1) ++ rest).flatMap strEnc) ((((j + 1 : Nat) : Int)).toNat * 1) (Value.string y).cells.toList) ((((j + 1 : Nat) : Int) - 1).toNat * 1) (Value.string x).cells.toList = (putAt Q x j ++ rest).flatMap strEnc := by
     rw [show (((j + 1 : Nat) : Int)).toNat * 1 = j + 1 from by omega, show (((j + 1 : Nat) : Int) - 1).toNat * 1 = j from by omega, ← hsw, ← str_set, ← str_set]
     rfl
    exact ⟨j, OA, ⟨OA, hins⟩, by
     refine ⟨?_, SFA⟩
     show some (Value.int .i64 ((((j + 1 : Nat) : Int)) - 1)) = some (.int .i64 (j : Int))
     congr 2
     omega, by rw [← hfin]; exact .refl _⟩
   rw [if_neg (by simp [g3])] at hins
   repeat refine wkKeepS0 ?_
   exact ⟨i + 1, OA, ⟨OA, OA⟩, SFA, by rw [hfs, hrest, ← hins]; exact .refl _⟩
  have hj0 : j = 0 := by simp at g2; omega
  subst hj0
  repeat refine wkKeepS0 ?_
  exact ⟨i + 1, OA, ⟨OA, OA⟩, SFA, by rw [hfs, hrest, ← hins]; exact .refl _⟩
 simp only [decide_eq_false_iff_not] at g1
 rw [List.take_of_length_le (by omega), List.drop_of_length_le (by omega), List.append_nil]
 have hlen : (sortB l).length = l.length := by have := sortB_len l l.length (Nat.le_refl _); rwa [List.take_length] at this
 repeat refine wkKeepS0 ?_
 exact ret_0 _ (.refl _) (by unfold rowS; rw [hlen]; rfl)
end Go.Proofs.YtonjepladadmhaaGreatDoor
namespace Go.Proofs.YtonjepladadmhaaGreatDoor
open Go Go.RowKit Go.Wk
theorem ret_0r {P : Program} {wr : World} {fr : Fr} {O : List It} {R : Value → List It → Prop} (O' : List It) (hO : SubO O' O) (hR : R (.tuple #[]) O') : retQ P wr [] R .ret fr O := ⟨[], O', rfl, hO, hR⟩
attribute [local irreducible] W RL Does thenQ blockQ retQ Calls Pu Stp RD Qy Ay DoesIn
theorem pdq_spec (A : Option Addr) (c : Nat) (l : List ByteArray) (lim : Int) (wr : World) (R : List It) (hn : l.length ≤ 12) (hAn : 0 < l.length → A ≠ none) :
  DoesIn Tryz.prog 182 [.slice A l.length c, .int .i64 0, .int .i64 l.length, .int .i64 lim] wr (rowS A c l :: R) (fun _ O => O = rowS A c (sortB l) :: R) := by
 refine DoesIn_of_W Tryz.func182 rfl rfl rfl rfl ?_
 repeat (first | refine walkB ?_ | (refine jn ?_; (try intro F); (apply Stp_pu; exact PuA); refine fin ?_))
 apply W_block
 refine W_loopF [(0, _), (1, _), (2, _), (3, _)] (rowS A c l :: R) (fun _ : Unit => []) (fun _ => []) (fun _ => True) (fun _ => 0) () SFA (.refl _) trivial ?_
 rintro _ _
 repeat (first | refine walk ?_ | (refine jn ?_; (try intro F); (apply Stp_pu; exact PuA); refine fin ?_))
 refine W_cond rfl (fun _ => ?_) (fun g1 => absurd g1 (by simp; omega))
 repeat (first | refine walk ?_ | (refine RD_G0w ?_; intro F; (apply Stp_callIn (h := insertion_spec A c l wr _ (by omega) hAn); rfl; exact .refl _; rintro v O' rfl); refine ⟨_, EndsA, SubO.right _ _, ?_⟩) | (refine jn ?_; (try intro F); (first | (apply Stp_callIn (h := insertion_spec A c l wr _ (by omega) hAn); rfl; exact .refl _; rintro v O' rfl) | (apply Stp_pu; exact PuA)); refine fin ?_))
 exact ret_0r _ (.refl _) rfl
theorem sort_spec (A : Option Addr) (c : Nat) (l : List ByteArray) (wr : World) (R : List It) (hn : l.length ≤ 12) (hAn : 0 < l.length → A ≠ none) :
  DoesIn Tryz.prog 140 [.slice A l.length c] wr (rowS A c l :: R) (fun _ O => O = rowS A c (sortB l) :: R) := by
 refine DoesIn_of_W Tryz.func140 rfl rfl rfl rfl ?_
 have hw : IntKind.u64.wrap (l.length : Int) = l.length := by simp [IntKind.wrap, IntKind.signed, IntKind.bits]; omega
 repeat (first | (refine js ?_; (first | (apply Stp_call (h := fun w' _ _ => blen_spec (IntKind.u64.wrap (l.length : Int)) (by rw [hw]; omega) (by rw [hw]; omega) w'); rfl; rintro v O' ⟨⟨lim, rfl⟩, rfl⟩) | (apply Stp_callIn (h := pdq_spec A c l lim wr _ hn hAn); rfl; exact .refl _; rintro v O' rfl))) | refine walk ?_)
 exact ret_0 _ (.refl _) rfl
end Go.Proofs.YtonjepladadmhaaGreatDoor
namespace Go.Proofs.YtonjepladadmhaaGreatDoor
open Go Go.RowKit Go.Wk
attribute [local irreducible] W RL Does thenQ blockQ retQ Calls Pu Stp RD Qy Ay
end Go.Proofs.YtonjepladadmhaaGreatDoor
namespace Go.Proofs.YtonjepladadmhaaGreatDoor
open Go Go.RowKit Go.Wk
attribute [local irreducible] W RL Does thenQ blockQ retQ Calls Pu Stp RD Qy Ay DoesIn
def cntB (x : ByteArray) : List ByteArray → Nat
 | [] => 0
 | y :: l => (if y = x then 1 else 0) + cntB x l
theorem cntB_snoc (x y : ByteArray) : ∀ l, cntB x (l ++ [y]) = cntB x l + if y = x then 1 else 0
 | [] => by simp [cntB]
 | z :: l => by simp only [List.cons_append, cntB, cntB_snoc x y l]; omega
def CntB (m : List (ByteArray × Value)) (l : List ByteArray) : Prop := ∀ x, (mget m x).getD (.int .i64 0) = .int .i64 (cntB x l)
theorem CntB.set {m : List (ByteArray × Value)} {l : List ByteArray} (h : CntB m l) (y : ByteArray) : CntB (mset m y (.int .i64 ((cntB y l : Int) + 1))) (l ++ [y]) := fun x => by
 rw [mget_mset, cntB_snoc]
 by_cases e : x = y
 ·subst e
  simp
 ·rw [if_neg e, if_neg (fun h => e h.symm), Nat.add_zero]
  exact h x
theorem sortB_length (l : List ByteArray) : (sortB l).length = l.length := by have := sortB_len l l.length (Nat.le_refl _); rwa [List.take_length] at this
end Go.Proofs.YtonjepladadmhaaGreatDoor
namespace Go.Proofs.YtonjepladadmhaaGreatDoor
open Go Go.RowKit Go.Wk
theorem bytesLess_lt : ∀ (x y : List UInt8), Op.bytesLess x y = decide (x < y)
 | [], [] => by simp [Op.bytesLess]
 | _ :: _, [] => by simp [Op.bytesLess]
 | [], _ :: _ => by simp [Op.bytesLess]
 | a :: x, b :: y => by
  rw [Op.bytesLess, bytesLess_lt x y]
  simp only [List.cons_lt_cons_iff]
  by_cases h1 : a < b <;> by_cases h2 : a = b <;> by_cases h3 : x < y <;> simp [h1, h2, h3]
theorem less_iff (x y : ByteArray) : lessB x y = true ↔ x.toList < y.toList := by
 rw [lessB, bytesLess_lt, decide_eq_true_eq]
theorem less_tr {x y z : ByteArray} (h1 : lessB x y = true) (h2 : lessB y z = true) : lessB x z = true :=
 (less_iff x z).2 (List.lt_trans ((less_iff x y).1 h1) ((less_iff y z).1 h2))
theorem toList_injB {x y : ByteArray} (h : x.toList = y.toList) : x = y := by
 have := toList_eq x y
 rw [h] at this
 simpa using this
theorem less_tri {x y : ByteArray} (h1 : lessB x y = false) (h2 : lessB y x = false) : x = y := by
 have a1 : ¬ x.toList < y.toList := fun h => by rw [(less_iff x y).2 h] at h1; cases h1
 have a2 : ¬ y.toList < x.toList := fun h => by rw [(less_iff y x).2 h] at h2; cases h2
 exact toList_injB (List.le_antisymm (List.not_lt.1 a2) (List.not_lt.1 a1))
def SortS (l : List ByteArray) : Prop := l.Pairwise fun a b => lessB a b = true
theorem getD_mem {l : List ByteArray} {i : Nat} (h : i < l.length) : l.getD i ByteArray.empty = l[i] := by
 rw [List.getD_eq_getElem?_getD, List.getElem?_eq_getElem h]; rfl
theorem insB_at (P : List ByteArray) (x : ByteArray) : ∀ j, j ≤ P.length → (∀ k (hk : k < P.length), j ≤ k → lessB x P[k] = true) →
  ∃ i, i ≤ j ∧ insB P x j = putAt P x i ∧ (∀ k (hk : k < P.length), i ≤ k → lessB x P[k] = true) ∧ (∀ (hi : i - 1 < P.length), 0 < i → lessB x P[i - 1] = false)
 | 0, _, h => ⟨0, Nat.le_refl _, rfl, h, fun _ h => absurd h (by simp)⟩
 | j + 1, hj, h => by
  rw [insB, getD_mem (show j < P.length by omega)]
  cases hx : lessB x P[j] with
  | true =>
   obtain ⟨i, h1, h2, h3, h4⟩ := insB_at P x j (by omega) (fun k hk hle => by
    rcases Nat.eq_or_lt_of_le hle with e | hlt
    ·subst e; exact hx
    ·exact h k hk hlt)
   exact ⟨i, by omega, by simpa using h2, h3, h4⟩
  | false => exact ⟨j + 1, Nat.le_refl _, by simp, h, fun _ _ => hx⟩
theorem putAt_mem (P : List ByteArray) (x y : ByteArray) (i : Nat) : y ∈ putAt P x i ↔ y = x ∨ y ∈ P := by
 rw [putAt, List.mem_append, List.mem_cons]
 constructor
 ·rintro (h | h | h)
  ·exact .inr (List.mem_of_mem_take h)
  ·exact .inl h
  ·exact .inr (List.mem_of_mem_drop h)
 ·rintro (h | h)
  ·exact .inr (.inl h)
  ·rw [← List.take_append_drop i P, List.mem_append] at h
   rcases h with h | h
   ·exact .inl h
   ·exact .inr (.inr h)
theorem ins_spec (P : List ByteArray) (x : ByteArray) : ∃ i, i ≤ P.length ∧ insB P x P.length = putAt P x i ∧ (∀ y ∈ P.drop i, lessB x y = true) ∧ (∀ (hi : i - 1 < P.length), 0 < i → lessB x P[i - 1] = false) := by
 obtain ⟨i, h1, h2, h3, h4⟩ := insB_at P x P.length (Nat.le_refl _) (fun k hk hle => by omega)
 refine ⟨i, h1, h2, fun y hy => ?_, h4⟩
 obtain ⟨k, hk, rfl⟩ := List.mem_iff_getElem.1 hy
 rw [List.getElem_drop]
 exact h3 _ _ (by omega)
theorem ins_s {P : List ByteArray} (x : ByteArray) (h : SortS P) (hx : x ∉ P) : SortS (insB P x P.length) := by
 obtain ⟨i, h1, h2, h3, h4⟩ := ins_spec P x
 rw [h2]
 have hle : ∀ y ∈ P.take i, lessB y x = true := fun y hy => by
  obtain ⟨k, hk, rfl⟩ := List.mem_iff_getElem.1 hy
  rw [List.length_take] at hk
  rw [List.getElem_take]
  have hlast := h4 (by omega) (by omega)
  have hlt1 : lessB P[i - 1] x = true := by
   cases hq : lessB P[i - 1] x with
   | true => rfl
   | false => exact absurd (less_tri hlast hq ▸ List.getElem_mem _) hx
  rcases Nat.eq_or_lt_of_le (show k ≤ i - 1 by omega) with e | hlt
  ·subst e; exact hlt1
  ·exact less_tr ((List.pairwise_iff_getElem.1 h) k (i - 1) (by omega) (by omega) hlt) hlt1
 unfold SortS putAt
 rw [List.pairwise_append, List.pairwise_cons]
 have hs := h
 rw [SortS, ← List.take_append_drop i P, List.pairwise_append] at hs
 refine ⟨hs.1, ⟨fun y hy => h3 y hy, hs.2.1⟩, fun y hy z hz => ?_⟩
 rcases List.mem_cons.1 hz with rfl | hz
 ·exact hle y hy
 ·exact hs.2.2 y hy z hz
theorem ins_mem (P : List ByteArray) (x y : ByteArray) : y ∈ insB P x P.length ↔ y = x ∨ y ∈ P := by
 obtain ⟨i, _, h2, _⟩ := ins_spec P x
 rw [h2, putAt_mem]
end Go.Proofs.YtonjepladadmhaaGreatDoor
set_option maxHeartbeats 4000000
namespace Go.Proofs.YtonjepladadmhaaGreatDoor
open Go Go.RowKit Go.Wk
theorem msets_get (x : ByteArray) : ∀ (l m : List (ByteArray × Value)), (mget (msets m l) x).isSome = true ↔ (mget m x).isSome = true ∨ x ∈ l.map Prod.fst
 | [], m => by simp [msets]
 | e :: l, m => by
  rw [msets, msets_get x l, mget_mset, List.map_cons, List.mem_cons]
  by_cases h : x = e.1
  ·rw [if_pos h]; simp [h]
  ·rw [if_neg h]; simp [h]
theorem msets_nd : ∀ (l : List (ByteArray × Value)) {m : List (ByteArray × Value)}, Nd m → Nd (msets m l)
 | [], _, h => h
 | e :: l, _, h => msets_nd l (h.set e.1 e.2)
theorem msets_len : ∀ (l m : List (ByteArray × Value)), (msets m l).length ≤ m.length + l.length
 | [], m => Nat.le_refl _
 | e :: l, m => by
  have h1 := msets_len l (mset m e.1 e.2)
  have h2 := mset_len e.1 e.2 m
  rw [msets, List.length_cons]
  omega
theorem sort_ss : ∀ (l acc : List ByteArray), SortS acc → l.Nodup → (∀ x ∈ l, x ∉ acc) → SortS (l.foldl (fun P x => insB P x P.length) acc) ∧ ∀ y, y ∈ l.foldl (fun P x => insB P x P.length) acc ↔ y ∈ acc ∨ y ∈ l
 | [], acc, h, _, _ => ⟨h, fun y => by simp⟩
 | x :: l, acc, h, hn, hd => by
  obtain ⟨hn1, hn2⟩ := List.nodup_cons.1 hn
  obtain ⟨h1, h2⟩ := sort_ss l (insB acc x acc.length) (ins_s x h (hd x List.mem_cons_self)) hn2 fun y hy hm => by
   rcases (ins_mem acc x y).1 hm with rfl | hm
   ·exact hn1 hy
   ·exact hd y (List.mem_cons_of_mem _ hy) hm
  refine ⟨h1, fun y => ?_⟩
  rw [List.foldl_cons, h2 y, ins_mem, List.mem_cons]
  constructor
  ·rintro ((rfl | h) | h)
   ·exact .inr (.inl rfl)
   ·exact .inl h
   ·exact .inr (.inr h)
  ·rintro (h | rfl | h)
   ·exact .inl (.inr h)
   ·exact .inl (.inl rfl)
   ·exact .inr h
theorem firstZ_mem' (x : ByteArray) : ∀ (l : List DZone) (k : Nat), (firstZ x l k).isSome = true ↔ x ∈ l.map DZone.name
 | [], _ => by simp [firstZ]
 | z :: l, k => by
  rw [firstZ, List.map_cons, List.mem_cons]
  by_cases h : z.name = x
  ·rw [if_pos h]; simp [h]
  ·rw [if_neg h, firstZ_mem' x l]
   have h' : ¬ x = z.name := fun e => h e.symm
   simp [h']
theorem firstL_mem' (x : ByteArray) : ∀ (l : List DLink) (k : Nat), (firstL x l k).isSome = true ↔ x ∈ l.map DLink.name
 | [], _ => by simp [firstL]
 | z :: l, k => by
  rw [firstL, List.map_cons, List.mem_cons]
  by_cases h : z.name = x
  ·rw [if_pos h]; simp [h]
  ·rw [if_neg h, firstL_mem' x l]
   have h' : ¬ x = z.name := fun e => h e.symm
   simp [h']
theorem mget_mem' (x : ByteArray) (m : List (ByteArray × Value)) : (mget m x).isSome = true ↔ x ∈ m.map Prod.fst := by
 have := mget_none_mem x m
 cases h : mget m x with
 | none =>
  have h3 := this.1 h
  exact ⟨fun e => (by cases e), fun e => absurd e h3⟩
 | some v =>
  have h2 : x ∈ m.map Prod.fst := Classical.byContradiction fun hn => by rw [this.2 hn] at h; cases h
  exact ⟨fun _ => h2, fun _ => rfl⟩
def namesOk (a : DSource) (ns : List ByteArray) : Prop := SortS ns ∧ ∀ x, x ∈ ns ↔ x ∈ a.zones.map DZone.name ∨ x ∈ a.links.map DLink.name
theorem keys_ok {a : DSource} {m1 m2 l d : List (ByteArray × Value)} (h1 : IxM m1 fun x => firstZ x a.zones 0) (h2 : IxM m2 fun x => firstL x a.links 0) (hd1 : Nd m1) (hl : l.Perm m2) (hd : d.Perm (msets m1 l)) : namesOk a (sortB (d.map Prod.fst)) := by
 have hn : (d.map Prod.fst).Nodup := (hd.map Prod.fst).nodup_iff.2 (msets_nd l hd1)
 obtain ⟨s1, s2⟩ := sort_ss (d.map Prod.fst) [] List.Pairwise.nil hn (by simp)
 refine ⟨s1, fun x => ?_⟩
 have e1 : x ∈ sortB (d.map Prod.fst) ↔ x ∈ d.map Prod.fst := by
  have := s2 x
  rw [show sortB (d.map Prod.fst) = (d.map Prod.fst).foldl (fun P x => insB P x P.length) [] from rfl, this]
  exact ⟨fun h => h.elim (fun h => (by cases h)) id, .inr⟩
 have e2 : x ∈ d.map Prod.fst ↔ x ∈ (msets m1 l).map Prod.fst := (hd.map Prod.fst).mem_iff
 have e3 : x ∈ l.map Prod.fst ↔ x ∈ m2.map Prod.fst := (hl.map Prod.fst).mem_iff
 have e4 := msets_get x l m1
 rw [mget_mem', h1 x, Option.isSome_map, firstZ_mem'] at e4
 have e5 := mget_mem' x m2
 rw [h2 x, Option.isSome_map, firstL_mem'] at e5
 rw [e1, e2, e4, e3, e5]
attribute [local irreducible] W RL Does thenQ blockQ retQ Calls Pu Stp RD Qy Ay DoesIn RLI WI
theorem keys_spec (b : Nat) (w : World) : Does Tryz.prog 90 [.map (some b)] w (fun v O => ∃ bx, v = .func (.func 141) #[] #[.pointer (some ⟨bx, 0, none⟩)] ∧ O = [.blk bx [.map (some b)] 168]) := by
 refine Does_of_W Tryz.func90 rfl rfl rfl rfl ?_
 repeat (first | (refine js ?_; (refine bx ?_; intro bk)) | refine walk ?_)
 exact ret_1 _ _ (.tmp rfl) (.refl _) ⟨_, rfl, rfl⟩
theorem collect_spec (bx b : Nat) (m : List (ByteArray × Value)) (hm : m.length ≤ 1000000) (wr : World) :
  DoesIn Tryz.prog 139 [.func (.func 141) #[] #[.pointer (some ⟨bx, 0, none⟩)]] wr [.blk bx [.map (some b)] 168, .mp b m] (KeysR m) := by
 refine DoesIn_of_W Tryz.func139 rfl rfl rfl rfl ?_
 repeat (first | (refine js ?_; (apply Stp_callIn (h := appendSeq_spec bx b m hm wr); rfl; exact SOA; rintro v O' ⟨A, c, d, h1, rfl, h3, h4, h5, rfl⟩)) | refine walk ?_)
 exact ret_1 _ [.row (.slice A (d.map Prod.fst).length c) 9 1 (d.map Prod.fst).length ((d.map Prod.fst).flatMap strEnc)] (.tmp rfl) SOA ⟨A, c, d, h1, rfl, h3, h4, h5, rfl⟩
theorem sorted_spec (bx b : Nat) (m : List (ByteArray × Value)) (hm : m.length ≤ 12) (wr : World) :
  DoesIn Tryz.prog 89 [.func (.func 141) #[] #[.pointer (some ⟨bx, 0, none⟩)]] wr [.blk bx [.map (some b)] 168, .mp b m]
   (fun v O => ∃ (A : Option Addr) (c : Nat) (d : List (ByteArray × Value)), d.Perm m ∧ v = .slice A (sortB (d.map Prod.fst)).length c ∧ O = [rowS A c (sortB (d.map Prod.fst))]) := by
 refine DoesIn_of_W Tryz.func89 rfl rfl rfl rfl ?_
 repeat (first | (refine js ?_; (first | (apply Stp_callIn (h := collect_spec bx b m (by omega) wr); rfl; exact SOA; rintro v O' ⟨A, c, d, h1, rfl, h3, h4, h5, rfl⟩) | (apply Stp_callIn (h := sort_spec A c (d.map Prod.fst) wr [] (by rw [List.length_map, h1.length_eq]; exact hm) h5); rfl; exact SOA; rintro v O' rfl))) | refine walk ?_)
 have hl := sortB_length (d.map Prod.fst)
 exact ret_1 _ [rowS A c (sortB (d.map Prod.fst))] (.tmp rfl) SOA ⟨A, c, d, h1, by rw [hl], rfl⟩
theorem linkNames_spec (Ar Az Al As : Option Addr) (cr cz cl cs : Nat) (a : DSource) (w : World) (hA : RdSource w Ar Az Al As cr cz cl cs a) (hn : a.zones.length + a.links.length ≤ 12) :
  Does Tryz.prog 38 [srcV Ar Az Al As cr cz cl cs a] w (fun v O => ∃ (A : Option Addr) (c : Nat) (ns : List ByteArray), namesOk a ns ∧ v = .slice A ns.length c ∧ O = [rowS A c ns]) := by
 refine Does_of_W Tryz.func38 rfl rfl rfl rfl ?_
 repeat (first | (refine js ?_; (first | (apply Stp_call (h := fun w' hw _ => lzones_spec Ar Az Al As cr cz cl cs a w' (hA.up hw) (by omega)); rfl; rintro v O' ⟨b1, m1, rfl, rfl, i1, d1, n1⟩) | (apply Stp_call (h := fun w' hw _ => ltargets_spec Ar Az Al As cr cz cl cs a w' (hA.up hw) (by omega)); rfl; rintro v O' ⟨b2, m2, rfl, rfl, i2, d2, n2⟩) | (apply Stp_callIn (h := mcopy_spec b1 b2 m1 m2 w); rfl; exact SOA; rintro v O' ⟨rfl, l, hl, rfl⟩) | (apply Stp_call (h := fun w' _ _ => keys_spec b1 w'); rfl; rintro v O' ⟨bx, rfl, rfl⟩) | (apply Stp_callIn (h := sorted_spec bx b1 (msets m1 l) (by have := msets_len l m1; have := hl.length_eq; omega) w); rfl; exact SOA; rintro v O' ⟨A, c, d, hd, rfl, rfl⟩) | (refine bx ?_; intro bk))) | refine walk ?_)
 exact ret_1 _ [rowS A c (sortB (d.map Prod.fst))] (.tmp rfl) SOA ⟨A, c, _, keys_ok i1 i2 d1 hl hd, rfl, rfl⟩
end Go.Proofs.YtonjepladadmhaaGreatDoor
