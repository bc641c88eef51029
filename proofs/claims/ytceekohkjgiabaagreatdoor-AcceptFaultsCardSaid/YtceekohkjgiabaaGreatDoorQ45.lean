/- Contract: the reference of layer 25: few. -/
import Derived.Test.YtceekohkjgiabaaGreatDoorQ39
import Derived.Test.YtceekohkjgiabaaGreatDoorQ35
import Derived.Test.YtceekohkjgiabaaGreatDoorQ25
import Derived.Test.YtceekohkjgiabaaGreatDoorQ30
set_option maxHeartbeats 4000000
set_option linter.unusedVariables false
set_option linter.unusedSimpArgs false
namespace Go.Proofs.YtceekohkjgiabaaGreatDoor
open Go Go.RowKit Go.Wk
attribute [local irreducible] W RL Does thenQ blockQ retQ Calls Pu Stp RD Qy Ay DoesIn
def prE (x : Int × List UInt8) : List Value := [.int .i64 x.1, .string (bz x.2)]
theorem prE.len (x : Int × List UInt8) : (prE x).length = 2 := rfl
def abE (x : List UInt8) : List Value := [.string (bz x)]
theorem abE.len (x : List UInt8) : (abE x).length = 1 := rfl
instance : EqE Tryz.prog 150 (Int × ByteArray) pEnc where
 h r s w := by
  unfold pEnc
  simp [go_sem, toList_inj]
  rcases r with ⟨_, _⟩
  rcases s with ⟨_, _⟩
  simp only [ok_ite, Result.ok.injEq, and_true]
  rw [Bool.eq_iff_iff]
  simp
 g := by kernel_rfl
structure FwK where
 i : Nat
 kn : Bool
structure FwR where
 k : Nat
 A1 : Option Addr
 c1 : Nat
 A2 : Option Addr
 c2 : Nat
 sz : Int
 acc : List (Int × List UInt8) × List (List UInt8)
 t : Nat
theorem addP_len (x : Int × List UInt8) (l : List (Int × List UInt8)) : (addP x l).length ≤ l.length + 1 := by unfold addP; split <;> simp
theorem addA_len (x : List UInt8) (l : List (List UInt8)) : (addA x l).length ≤ l.length + 1 := by unfold addA; split <;> simp
theorem sizeA_snoc (x : List UInt8) : ∀ l : List (List UInt8), sizeA (l ++ [x]) = sizeA l + (x.length + 1)
 | [] => by simp [sizeA]
 | y :: l => by rw [List.cons_append, sizeA, sizeA, sizeA_snoc x l]; omega
structure FwI (acc : List (Int × List UInt8) × List (List UInt8)) (sz : Int) (t : Nat) : Prop where
 p : acc.1.length ≤ t
 a : acc.2.length ≤ t
 s : sz = sizeA acc.2
 b : sizeA acc.2 ≤ 10 * t
theorem FwI.step {acc : List (Int × List UInt8) × List (List UInt8)} {sz : Int} {t : Nat} (h : FwI acc sz t) (o : Int) (x : List UInt8) (hx : x.length ≤ 7) : FwI (addP (o, x) acc.1, addA x acc.2) (sizeA (addA x acc.2)) (t + 1) :=
 ⟨by have := addP_len (o, x) acc.1; have := h.p; dsimp only; omega, by have := addA_len x acc.2; have := h.a; dsimp only; omega, rfl, by
  have := h.b
  dsimp only
  unfold addA
  split
  ·omega
  ·rw [sizeA_snoc]; omega⟩
theorem any_mem {α : Type} [DecidableEq α] (x : α) : ∀ l : List α, (l.any fun y => decide (y = x)) = decide (x ∈ l)
 | [] => by simp
 | y :: l => by
  rw [List.any_cons, any_mem x l, Bool.eq_iff_iff]
  simp only [Bool.or_eq_true, decide_eq_true_eq, List.mem_cons]
  exact ⟨fun h => h.elim (fun h => .inl h.symm) .inr, fun h => h.elim (fun h => .inl h.symm) .inr⟩
theorem wkRfW0 {G G' : Prop} (k : G') (h : Hold G' → G := by intro k9; (first | refine walk ?_ | (refine jn ?_; (try intro F); (first | (refine stA ?_) | (apply Stp_pu; exact PuA)); refine fin ?_)); exact k9.out) : G := h ⟨k⟩
theorem PuRfW0 {G : Prop} (h : G := by (first | (apply Pu_indexAddrH; rfl; rfl; omega; omega; (intro w' _ hO; exact (row_cell (hO.of (A := .row (.slice A5 S.length c5) 121 2 S.length (S.flatMap stEnc)) (by repeat' constructor)) hg1).1)) | (apply Pu_loadRN; rfl; (focus repeat' constructor); exact hgn; rfl) | (apply Pu_loadRF; rfl; (focus repeat' constructor); exact hgx) | (apply Pu_loadR; rfl; (focus repeat' constructor); exact hgx))) : G := h
theorem QyRfW0 {G : Prop} (h : G := by first | (apply Qy_y; rfl; exact PuRfW0) | exact QyA) : G := h
theorem QFRfW0 {G : Prop} (h : G := by repeat (first | exact QF.nil | (apply QF.mk; rfl; rfl; decide +kernel; exact QyRfW0))) : G := h
theorem PuRfW1 {G : Prop} (h : G := by (first | (apply Pu_indexAddrH; rfl; rfl; omega; omega; (intro w' _ hO; exact (row_cell (hO.of (A := .row (.slice A1 P.length c1) 150 2 P.length (P.flatMap prE)) (by repeat' constructor)) hp1).1)) | (apply Pu_loadRN; rfl; (focus repeat' constructor); exact hpn; rfl) | (apply Pu_eqlEB (i := ((y1, bz y2) : Int × ByteArray)) (j := (e.off + x.1, bz ab)) (enc := pEnc); rfl; rfl; exact hq))) : G := h
theorem QyRfW1 {G : Prop} (h : G := by first | (apply Qy_y; rfl; exact PuRfW1) | exact QyA) : G := h
theorem QFRfW1 {G : Prop} (h : G := by repeat (first | exact QF.nil | (apply QF.mk; rfl; rfl; decide +kernel; exact QyRfW1))) : G := h
theorem PuRfW2 {G : Prop} (h : G := by (first | (apply Pu_indexAddrH; rfl; rfl; omega; omega; (intro w' _ hO; exact (row_cell (hO.of (A := .row (.slice A2 L.length c2) 9 1 L.length (L.flatMap abE)) (by repeat' constructor)) ha1).1)) | (apply Pu_loadR; rfl; (focus repeat' constructor); exact ha1) | (apply Pu_eqlSB; rfl; rfl; exact hq))) : G := h
theorem QyRfW2 {G : Prop} (h : G := by first | (apply Qy_y; rfl; exact PuRfW2) | exact QyA) : G := h
theorem QFRfW2 {G : Prop} (h : G := by repeat (first | exact QF.nil | (apply QF.mk; rfl; rfl; decide +kernel; exact QyRfW2))) : G := h
theorem PuRfW3 {G : Prop} (h : G := by (apply Pu_leqB; rfl; rfl; first | exact b1 | exact b2)) : G := h
theorem QyRfW3 {G : Prop} (h : G := by first | (apply Qy_y; rfl; exact PuRfW3) | exact QyA) : G := h
theorem QFRfW3 {G : Prop} (h : G := by repeat (first | exact QF.nil | (apply QF.mk; rfl; rfl; decide +kernel; exact QyRfW3))) : G := h
theorem PuRfW4 {G : Prop} (h : G := by (apply Pu_leqB; rfl; rfl; exact b1)) : G := h
theorem QyRfW4 {G : Prop} (h : G := by first | (apply Qy_y; rfl; exact PuRfW4) | exact QyA) : G := h
theorem QFRfW4 {G : Prop} (h : G := by repeat (first | exact QF.nil | (apply QF.mk; rfl; rfl; decide +kernel; exact QyRfW4))) : G := h
set_option maxHeartbeats 4000000 in
theorem rfew25_spec (Ar Az Al As : Option Addr) (cr cz cl cs : Nat) (a : DSource) (z : DZone) (Ae : Option Addr) (ce : Nat) (w : World) (hA : RdSource w Ar Az Al As cr cz cl cs a) (hE : RdSl w Ae ce DEra.enc 13 z.eras) (hS : SrcOk a) (hV : SavOk a) (hel : z.eras.length ≤ 1000000)
  (hZ : ∀ e ∈ z.eras, EraOk e) (hH : ∀ e ∈ z.eras, ∀ x ∈ statesOf a.rules e, hoursB e.off x.1 = true) :
  Does Tryz.prog 67 [srcV Ar Az Al As cr cz cl cs a, .agg #[.string z.name, .slice Ae z.eras.length ce]] w (fun v O => v = .bool (fewB25 a.rules z) ∧ O = []) := by
 have hn := hS.nr
 unfold fewB25
 obtain ⟨R, hR⟩ : ∃ R, erGo a.rules z.eras ([], []) = R := ⟨_, rfl⟩
 rw [hR]
 refine Does_of_W Tryz.func67 rfl rfl rfl rfl ?_
 repeat (first | refine wkRfW0 ?_ | (refine jn ?_; (try intro F); (refine bx ?_; intro bk); refine fin ?_) | (apply RD_W; rfl; intro bk))
 rename_i b2
 obtain ⟨b3, hb3⟩ : ∃ b3, bk = b3 := ⟨_, rfl⟩
 rw [hb3]
 clear hb3 bk
 refine W_nil 150 2 ?_
 refine W_nil 9 1 ?_
 refine W_loopF [(2, .pointer (some ⟨b2, 0, none⟩)), (3, .pointer (some ⟨b3, 0, none⟩))] [.blk b3 [.string z.name, .slice Ae z.eras.length ce] 51, .blk b2 [.slice Ar a.rules.length cr, .slice Az a.zones.length cz, .slice Al a.links.length cl, .slice As a.shifts.length cs] 27]
  (fun g : FwR => [(5, .slice g.A1 g.acc.1.length g.c1), (6, .slice g.A2 g.acc.2.length g.c2), (7, .int .i64 g.sz), (8, .int .i64 g.k)]) (fun g => [.row (.slice g.A1 g.acc.1.length g.c1) 150 2 g.acc.1.length (g.acc.1.flatMap prE), .row (.slice g.A2 g.acc.2.length g.c2) 9 1 g.acc.2.length (g.acc.2.flatMap abE)])
  (fun g => g.k ≤ z.eras.length ∧ FwI g.acc g.sz g.t ∧ g.t ≤ g.k * 2000000 ∧ erGo a.rules (z.eras.drop g.k) g.acc = R) (fun g => z.eras.length - g.k) ⟨0, none, 0, none, 0, 0, ([], []), 0⟩ SFA SOA ⟨Nat.zero_le _, ⟨Nat.le_refl _, Nat.le_refl _, rfl, Nat.le_refl _⟩, Nat.le_refl _, hR⟩ ?_
 clear hR
 rintro ⟨k, A1, c1, A2, c2, sz, acc, t⟩ ⟨hk, hI, ht, hi⟩
 dsimp only at hk hI ht hi ⊢
 repeat (first | refine wkRfW0 ?_ | (refine jn ?_; (try intro F); (refine bx ?_; intro bk); refine fin ?_) | (apply RD_W; rfl; intro bk))
 refine W_cond rfl (fun hc => ?_) (fun hc => ?_)
 ·simp only [decide_eq_true_eq, Int.ofNat_lt] at hc
  obtain ⟨hna, hca⟩ := hE.rd k _ (List.getElem?_eq_getElem hc)
  have hem := List.getElem_mem hc
  rw [drop_cons hc, erGo] at hi
  generalize z.eras[k] = e at *
  have hSl := statesOf_len a.rules e
  have hlet := statesOf_let (e := e) fun r hr => (hS.rs r hr).2
  have h64 := statesOf_64 (e := e) (fun r h => hV.i64 r h) (hZ e hem).save
  have hss := fun w' (hw : Bel w.heap.size w w') => rstates_spec Ar Az Al As cr cz cl cs a e w' (hA.up hw) hn
  have hZe := hZ e hem
  have hHe := hH e hem
  generalize statesOf a.rules e = S at *
  obtain ⟨R2, hR2⟩ : ∃ R2, stGo e S acc = R2 := ⟨_, rfl⟩
  rw [hR2] at hi
  simp only [DEra.enc] at hss hca
  repeat (first | (apply RL_pu; rfl; exact PuI) | (apply RD_Q; rfl; rfl; decide +kernel; rfl; rfl; exact QyI) | refine walk1 ?_ | (refine jg ?_; (try intro F); (first | (apply Stp_call (h := fun w' hw _ => hss w' hw); rfl; rintro v O' ⟨A5, c5, rfl, rfl⟩) | (refine bx ?_; intro bk) | (refine stA ?_)); first | refine ⟨_, EndsA, QFI, ?_⟩ | refine fin ?_) | (refine jn ?_; (try intro F); (first | (refine bx ?_; intro bk) | (refine stA ?_) | (apply Stp_pu; first | exact PuI | exact PuA)); first | refine ⟨_, EndsA, QFI, ?_⟩ | refine fin ?_) | (apply RD_W; rfl; intro bk))
  generalize bk = b9
  refine W_loopF [(2, .pointer (some ⟨b2, 0, none⟩)), (3, .pointer (some ⟨b3, 0, none⟩)), (8, .int .i64 k), (9, .pointer (some ⟨b9, 0, none⟩)), (10, .slice A5 S.length c5)]
   [.blk b9 [.int .i64 e.off, .int .i64 e.kind, .int .i64 e.save, .string e.set, .string e.format, .bool e.til.is, .int .i64 e.til.year, .int .i64 e.til.month, .int .i64 e.til.day.kind, .int .i64 e.til.day.week, .int .i64 e.til.day.day, .int .i64 e.til.at_.sec, .int .i64 e.til.at_.base] 56, .row (.slice A5 S.length c5) 121 2 S.length (S.flatMap stEnc), .blk b3 [.string z.name, .slice Ae z.eras.length ce] 51, .blk b2 [.slice Ar a.rules.length cr, .slice Az a.zones.length cz, .slice Al a.links.length cl, .slice As a.shifts.length cs] 27]
   (fun g : FwR => [(5, .slice g.A1 g.acc.1.length g.c1), (6, .slice g.A2 g.acc.2.length g.c2), (7, .int .i64 g.sz), (11, .int .i64 g.k)]) (fun g => [.row (.slice g.A1 g.acc.1.length g.c1) 150 2 g.acc.1.length (g.acc.1.flatMap prE), .row (.slice g.A2 g.acc.2.length g.c2) 9 1 g.acc.2.length (g.acc.2.flatMap abE)])
   (fun g => g.k ≤ S.length ∧ FwI g.acc g.sz g.t ∧ g.t ≤ k * 2000000 + g.k ∧ stGo e (S.drop g.k) g.acc = R2) (fun g => S.length - g.k) ⟨0, A1, c1, A2, c2, sz, acc, t⟩ SFA SOA ⟨Nat.zero_le _, hI, Nat.le_trans ht (Nat.le_add_right _ _), hR2⟩ ?_
  clear hR2 hI ht A1 c1 A2 c2 sz acc t
  rintro ⟨j, A1, c1, A2, c2, sz, acc, t⟩ ⟨hj, hI, ht, hi2⟩
  dsimp only at hj hI ht hi2 ⊢
  repeat (first | refine wkRfW0 ?_ | (refine jn ?_; (try intro F); (refine bx ?_; intro bk); refine fin ?_) | (apply RD_W; rfl; intro bk))
  refine W_cond rfl (fun hc2 => ?_) (fun hc2 => ?_)
  ·simp only [decide_eq_true_eq, Int.ofNat_lt] at hc2
   have hg1 := flat_get stEnc.len S j _ 0 _ (List.getElem?_eq_getElem hc2) rfl
   have hgn : ∀ i v, (stEnc S[j])[i]? = some v → (S.flatMap stEnc)[j * 2 + i]? = some v := fun i v hv => flat_get stEnc.len S j _ i v (List.getElem?_eq_getElem hc2) hv
   have hgx := hgn 0 _ rfl
   have hxm := List.getElem_mem hc2
   rw [drop_cons hc2, stGo] at hi2
   generalize S[j] = x at *
   have hfa := fun w' => rabbr_spec e.format x.2 e.off x.1 w' hZe.fmt (hlet x hxm) hZe.off (h64 x hxm)
   have hal := abbrF_len e.format.data.toList e.off x.1 x.2.data.toList
   have hho := hHe x hxm
   unfold hoursB at hho
   simp only [Bool.and_eq_true, decide_eq_true_eq] at hho
   obtain ⟨hh1, hh2⟩ := hho
   generalize abbrF e.format.data.toList e.off x.1 x.2.data.toList = abr at *
   obtain ⟨ab, er⟩ := abr
   dsimp only at hi2 hal
   replace hfa : ∀ w', Does Tryz.prog 113 [.string e.format, .int .i64 e.off, .agg #[.int .i64 x.1, .string x.2]] w' (fun v O => v = .tuple #[.string (bz ab), .int .i64 er] ∧ O = []) := hfa
   simp only [stEnc] at hgn hg1
   have hst := hI.step (e.off + x.1) ab hal
   have hp := hI.p
   have ha := hI.a
   have hsb := hI.b
   have hss2 := hI.s
   obtain ⟨P, L⟩ := acc
   dsimp only at hp ha hsb hss2 hst hi2 ⊢
   have hal2 := bz_size ab
   repeat (first | refine walkB ?_ | (refine jn ?_; (try intro F); (first | (refine bx ?_; intro bk) | (refine stA ?_) | (apply Stp_pu; exact PuA)); refine fin ?_) | (apply RD_W; rfl; intro bk))
   apply W_block
   repeat (first | (apply RL_pu; rfl; exact PuRfW0) | (apply RD_Q; rfl; rfl; decide +kernel; rfl; rfl; exact QyRfW0) | refine walkB1 ?_ | (refine jg ?_; (try intro F); (first | (refine callE (fun w' _ => hfa w') ?_) | (refine bx ?_; intro bk) | (refine stA ?_)); first | refine ⟨_, EndsA, QFRfW0, ?_⟩ | refine fin ?_) | (refine jn ?_; (try intro F); (first | (refine bx ?_; intro bk) | (refine stA ?_) | (apply Stp_pu; first | exact PuRfW0 | exact PuA)); first | refine ⟨_, EndsA, QFRfW0, ?_⟩ | refine fin ?_) | (apply RD_W; rfl; intro bk))
   generalize bk = b14
   obtain ⟨K1, hK1⟩ : ∃ K, (P.any fun y => decide (y = (e.off + x.1, ab))) = K := ⟨_, rfl⟩
   have hP1 : addP (e.off + x.1, ab) P = if K1 then P else P ++ [(e.off + x.1, ab)] := by
    unfold addP
    rw [← hK1, any_mem]
    simp only [decide_eq_true_eq]
   refine W_post (fun fr' O' => Sub ((15, .bool K1) :: [(2, .pointer (some ⟨b2, 0, none⟩)), (3, .pointer (some ⟨b3, 0, none⟩)), (8, .int .i64 k), (9, .pointer (some ⟨b9, 0, none⟩)), (10, .slice A5 S.length c5), (11, .int .i64 j), (12, .string (bz ab)), (7, .int .i64 sz), (5, .slice A1 P.length c1), (6, .slice A2 L.length c2), (14, .pointer (some ⟨b14, 0, none⟩))]) fr' ∧ SubO [.row (.slice A1 P.length c1) 150 2 P.length (P.flatMap prE), .blk b14 [.int .i64 (e.off + x.1), .string (bz ab)] 150, .blk b9 [.int .i64 e.off, .int .i64 e.kind, .int .i64 e.save, .string e.set, .string e.format, .bool e.til.is, .int .i64 e.til.year, .int .i64 e.til.month, .int .i64 e.til.day.kind, .int .i64 e.til.day.week, .int .i64 e.til.day.day, .int .i64 e.til.at_.sec, .int .i64 e.til.at_.base] 56, .row (.slice A5 S.length c5) 121 2 S.length (S.flatMap stEnc), .blk b3 [.string z.name, .slice Ae z.eras.length ce] 51, .blk b2 [.slice Ar a.rules.length cr, .slice Az a.zones.length cz, .slice Al a.links.length cl, .slice As a.shifts.length cs] 27, .row (.slice A2 L.length c2) 9 1 L.length (L.flatMap abE)] O') ?_ ?_
   ·apply W_block
    clear hi2 hi hI hst hP1
    refine W_loopF [(2, .pointer (some ⟨b2, 0, none⟩)), (3, .pointer (some ⟨b3, 0, none⟩)), (8, .int .i64 k), (9, .pointer (some ⟨b9, 0, none⟩)), (10, .slice A5 S.length c5), (11, .int .i64 j), (12, .string (bz ab)), (7, .int .i64 sz), (5, .slice A1 P.length c1), (6, .slice A2 L.length c2), (14, .pointer (some ⟨b14, 0, none⟩))] [.row (.slice A1 P.length c1) 150 2 P.length (P.flatMap prE), .blk b14 [.int .i64 (e.off + x.1), .string (bz ab)] 150, .blk b9 [.int .i64 e.off, .int .i64 e.kind, .int .i64 e.save, .string e.set, .string e.format, .bool e.til.is, .int .i64 e.til.year, .int .i64 e.til.month, .int .i64 e.til.day.kind, .int .i64 e.til.day.week, .int .i64 e.til.day.day, .int .i64 e.til.at_.sec, .int .i64 e.til.at_.base] 56, .row (.slice A5 S.length c5) 121 2 S.length (S.flatMap stEnc), .blk b3 [.string z.name, .slice Ae z.eras.length ce] 51, .blk b2 [.slice Ar a.rules.length cr, .slice Az a.zones.length cz, .slice Al a.links.length cl, .slice As a.shifts.length cs] 27, .row (.slice A2 L.length c2) 9 1 L.length (L.flatMap abE)] (fun g : FwK => [(15, .bool g.kn), (16, .int .i64 g.i)]) (fun _ => []) (fun g => g.i ≤ P.length ∧ (g.kn || (P.drop g.i).any fun y => decide (y = (e.off + x.1, ab))) = K1) (fun g => P.length - g.i) ⟨0, false⟩ SFA SOA ⟨Nat.zero_le _, hK1⟩ ?_
    clear hK1
    rintro ⟨i, kn⟩ ⟨hi1, hi3⟩
    dsimp only at hi1 hi3 ⊢
    repeat (first | refine wkRfW0 ?_ | (refine jn ?_; (try intro F); (refine bx ?_; intro bk); refine fin ?_) | (apply RD_W; rfl; intro bk))
    refine W_cond rfl (fun hc3 => ?_) (fun hc3 => ?_)
    ·simp only [decide_eq_true_eq, Int.ofNat_lt] at hc3
     rw [drop_cons hc3, List.any_cons] at hi3
     cases kn with
     | true =>
      repeat (first | refine und ?_ | refine walk ?_ | (refine jn ?_; (try intro F); (first | (refine bx ?_; intro bk) | (refine stA ?_) | (apply Stp_pu; exact PuA)); refine fin ?_) | (apply RD_W; rfl; intro bk))
      exact ⟨⟨i + 1, true⟩, OA, ⟨OA, hi3⟩, SFA, SOA⟩
     | false =>
      have hp1 := flat_get prE.len P i _ 0 _ (List.getElem?_eq_getElem hc3) rfl
      have hpn : ∀ j v, (prE P[i])[j]? = some v → (P.flatMap prE)[i * 2 + j]? = some v := fun j v hv => flat_get prE.len P i _ j v (List.getElem?_eq_getElem hc3) hv
      generalize P[i] = y at *
      obtain ⟨y1, y2⟩ := y
      obtain ⟨Q, hQ⟩ : ∃ Q, decide (((y1, y2) : Int × List UInt8) = (e.off + x.1, ab)) = Q := ⟨_, rfl⟩
      have hq : decide (((y1, bz y2) : Int × ByteArray) = (e.off + x.1, bz ab)) = Q := by
       rw [← hQ]
       refine decide_eq_decide.2 ⟨fun h => ?_, fun h => ?_⟩
       ·injection h with h1 h2; rw [h1, bz_inj h2]
       ·injection h with h1 h2; rw [h1, h2]
      rw [hQ, Bool.false_or] at hi3
      simp only [prE] at hp1 hpn
      repeat (first | refine und ?_ | (apply RL_pu; rfl; exact PuRfW1) | (apply RD_Q; rfl; rfl; decide +kernel; rfl; rfl; exact QyRfW1) | refine walk1 ?_ | (refine jn ?_; (try intro F); (first | (refine bx ?_; intro bk) | (refine stA ?_) | (apply Stp_pu; first | exact PuRfW1 | exact PuA)); first | refine ⟨_, EndsA, QFRfW1, ?_⟩ | refine fin ?_) | (apply RD_W; rfl; intro bk))
      exact ⟨⟨i + 1, Q⟩, OA, ⟨OA, hi3⟩, SFA, SOA⟩
    ·simp only [decide_eq_false_iff_not, Int.ofNat_lt] at hc3
     rw [List.drop_eq_nil_of_le (by omega), List.any_nil, Bool.or_false] at hi3
     subst hi3
     repeat (first | refine wkRfW0 ?_ | (refine jn ?_; (try intro F); (refine bx ?_; intro bk); refine fin ?_) | (apply RD_W; rfl; intro bk))
     exact ⟨rfl, SFA, SOA⟩
   rintro fr' O' ⟨hf, hO⟩
   apply thenQ_n
   refine W_sub hf hO ?_
   clear hf hO fr' O' hK1
   refine W_seq ?_
   refine W_post (fun fr' O' => ∃ (A3 : Option Addr) (c3 : Nat), Sub [(2, .pointer (some ⟨b2, 0, none⟩)), (3, .pointer (some ⟨b3, 0, none⟩)), (8, .int .i64 k), (9, .pointer (some ⟨b9, 0, none⟩)), (10, .slice A5 S.length c5), (11, .int .i64 j), (12, .string (bz ab)), (7, .int .i64 sz), (5, .slice A3 (addP (e.off + x.1, ab) P).length c3), (6, .slice A2 L.length c2)] fr' ∧ SubO [.row (.slice A3 (addP (e.off + x.1, ab) P).length c3) 150 2 (addP (e.off + x.1, ab) P).length ((addP (e.off + x.1, ab) P).flatMap prE), .blk b9 [.int .i64 e.off, .int .i64 e.kind, .int .i64 e.save, .string e.set, .string e.format, .bool e.til.is, .int .i64 e.til.year, .int .i64 e.til.month, .int .i64 e.til.day.kind, .int .i64 e.til.day.week, .int .i64 e.til.day.day, .int .i64 e.til.at_.sec, .int .i64 e.til.at_.base] 56, .row (.slice A5 S.length c5) 121 2 S.length (S.flatMap stEnc), .blk b3 [.string z.name, .slice Ae z.eras.length ce] 51, .blk b2 [.slice Ar a.rules.length cr, .slice Az a.zones.length cz, .slice Al a.links.length cl, .slice As a.shifts.length cs] 27, .row (.slice A2 L.length c2) 9 1 L.length (L.flatMap abE)] O') ?_ ?_
   ·rw [hP1]
    cases K1 with
    | true =>
     simp only [if_true]
     repeat (first | refine wkRfW0 ?_ | (refine jn ?_; (try intro F); (refine bx ?_; intro bk); refine fin ?_) | (apply RD_W; rfl; intro bk))
     exact ⟨rfl, A1, c1, SFA, SOA⟩
    | false =>
     simp only [Bool.false_eq_true, if_false]
     repeat (first | refine walk ?_ | (refine jn ?_; (try intro F); (first | (apply Stp_append; rfl; rfl; (intro A' c'; (focus repeat' constructor)); (intro w' _ hO; exact blkRaw (hO.of (by repeat' constructor))); rfl; rfl; (simp only [maxLen]; omega); omega; intro A' c' hc1 hc2 hc3) | (refine bx ?_; intro bk) | (refine stA ?_) | (apply Stp_pu; exact PuA)); refine fin ?_) | (apply RD_W; rfl; intro bk))
     refine ⟨rfl, A', c', ?_, ?_⟩
     ·rw [List.length_append]
      exact SFA
     ·rw [List.length_append, List.flatMap_append]
      exact SOA
   rintro fr' O' ⟨A3, c3, hf, hO⟩
   apply thenQ_n
   refine W_sub hf hO ?_
   clear hf hO fr' O' A1 c1 hP1 b14
   generalize addP (e.off + x.1, ab) P = P2 at *
   obtain ⟨K2, hK2⟩ : ∃ K, (L.any fun y => decide (y = ab)) = K := ⟨_, rfl⟩
   have hL2 : addA ab L = if K2 then L else L ++ [ab] := by
    unfold addA
    rw [← hK2, any_mem]
    simp only [decide_eq_true_eq]
   repeat (first | refine walkB ?_ | (refine jn ?_; (try intro F); (first | (refine bx ?_; intro bk) | (refine stA ?_) | (apply Stp_pu; exact PuA)); refine fin ?_) | (apply RD_W; rfl; intro bk))
   refine W_post (fun fr' O' => Sub ((15, .bool K2) :: [(2, .pointer (some ⟨b2, 0, none⟩)), (3, .pointer (some ⟨b3, 0, none⟩)), (8, .int .i64 k), (9, .pointer (some ⟨b9, 0, none⟩)), (10, .slice A5 S.length c5), (11, .int .i64 j), (12, .string (bz ab)), (7, .int .i64 sz), (5, .slice A3 P2.length c3), (6, .slice A2 L.length c2)]) fr' ∧ SubO [.row (.slice A3 P2.length c3) 150 2 P2.length (P2.flatMap prE), .blk b9 [.int .i64 e.off, .int .i64 e.kind, .int .i64 e.save, .string e.set, .string e.format, .bool e.til.is, .int .i64 e.til.year, .int .i64 e.til.month, .int .i64 e.til.day.kind, .int .i64 e.til.day.week, .int .i64 e.til.day.day, .int .i64 e.til.at_.sec, .int .i64 e.til.at_.base] 56, .row (.slice A5 S.length c5) 121 2 S.length (S.flatMap stEnc), .blk b3 [.string z.name, .slice Ae z.eras.length ce] 51, .blk b2 [.slice Ar a.rules.length cr, .slice Az a.zones.length cz, .slice Al a.links.length cl, .slice As a.shifts.length cs] 27, .row (.slice A2 L.length c2) 9 1 L.length (L.flatMap abE)] O') ?_ ?_
   ·apply W_block
    clear hi2 hi hst hL2
    refine W_loopF [(2, .pointer (some ⟨b2, 0, none⟩)), (3, .pointer (some ⟨b3, 0, none⟩)), (8, .int .i64 k), (9, .pointer (some ⟨b9, 0, none⟩)), (10, .slice A5 S.length c5), (11, .int .i64 j), (12, .string (bz ab)), (7, .int .i64 sz), (5, .slice A3 P2.length c3), (6, .slice A2 L.length c2)] [.row (.slice A3 P2.length c3) 150 2 P2.length (P2.flatMap prE), .blk b9 [.int .i64 e.off, .int .i64 e.kind, .int .i64 e.save, .string e.set, .string e.format, .bool e.til.is, .int .i64 e.til.year, .int .i64 e.til.month, .int .i64 e.til.day.kind, .int .i64 e.til.day.week, .int .i64 e.til.day.day, .int .i64 e.til.at_.sec, .int .i64 e.til.at_.base] 56, .row (.slice A5 S.length c5) 121 2 S.length (S.flatMap stEnc), .blk b3 [.string z.name, .slice Ae z.eras.length ce] 51, .blk b2 [.slice Ar a.rules.length cr, .slice Az a.zones.length cz, .slice Al a.links.length cl, .slice As a.shifts.length cs] 27, .row (.slice A2 L.length c2) 9 1 L.length (L.flatMap abE)] (fun g : FwK => [(15, .bool g.kn), (17, .int .i64 g.i)]) (fun _ => []) (fun g => g.i ≤ L.length ∧ (g.kn || (L.drop g.i).any fun y => decide (y = ab)) = K2) (fun g => L.length - g.i) ⟨0, false⟩ SFA SOA ⟨Nat.zero_le _, hK2⟩ ?_
    clear hK2
    rintro ⟨i, kn⟩ ⟨hi1, hi3⟩
    dsimp only at hi1 hi3 ⊢
    repeat (first | refine wkRfW0 ?_ | (refine jn ?_; (try intro F); (refine bx ?_; intro bk); refine fin ?_) | (apply RD_W; rfl; intro bk))
    refine W_cond rfl (fun hc3 => ?_) (fun hc3 => ?_)
    ·simp only [decide_eq_true_eq, Int.ofNat_lt] at hc3
     rw [drop_cons hc3, List.any_cons] at hi3
     cases kn with
     | true =>
      repeat (first | refine und ?_ | refine walk ?_ | (refine jn ?_; (try intro F); (first | (refine bx ?_; intro bk) | (refine stA ?_) | (apply Stp_pu; exact PuA)); refine fin ?_) | (apply RD_W; rfl; intro bk))
      exact ⟨⟨i + 1, true⟩, OA, ⟨OA, hi3⟩, SFA, SOA⟩
     | false =>
      have ha1 := flat_get abE.len L i _ 0 _ (List.getElem?_eq_getElem hc3) rfl
      generalize L[i] = y at *
      obtain ⟨Q, hQ⟩ : ∃ Q, decide (y = ab) = Q := ⟨_, rfl⟩
      have hq : decide (bz y = bz ab) = Q := by
       rw [← hQ]
       exact decide_eq_decide.2 ⟨fun h => bz_inj h, fun h => by rw [h]⟩
      rw [hQ, Bool.false_or] at hi3
      repeat (first | refine und ?_ | (apply RL_pu; rfl; exact PuRfW2) | (apply RD_Q; rfl; rfl; decide +kernel; rfl; rfl; exact QyRfW2) | refine walk1 ?_ | (refine jn ?_; (try intro F); (first | (refine bx ?_; intro bk) | (refine stA ?_) | (apply Stp_pu; first | exact PuRfW2 | exact PuA)); first | refine ⟨_, EndsA, QFRfW2, ?_⟩ | refine fin ?_) | (apply RD_W; rfl; intro bk))
      exact ⟨⟨i + 1, Q⟩, OA, ⟨OA, hi3⟩, SFA, SOA⟩
    ·simp only [decide_eq_false_iff_not, Int.ofNat_lt] at hc3
     rw [List.drop_eq_nil_of_le (by omega), List.any_nil, Bool.or_false] at hi3
     subst hi3
     repeat (first | refine wkRfW0 ?_ | (refine jn ?_; (try intro F); (refine bx ?_; intro bk); refine fin ?_) | (apply RD_W; rfl; intro bk))
     exact ⟨rfl, SFA, SOA⟩
   rintro fr' O' ⟨hf, hO⟩
   apply thenQ_n
   refine W_sub hf hO ?_
   clear hf hO fr' O' hK2
   rw [hL2] at hst hi2
   cases K2 with
   | true =>
    simp only [if_true] at hst hi2
    repeat (first | refine wkRfW0 ?_ | (refine jn ?_; (try intro F); (refine bx ?_; intro bk); refine fin ?_) | (apply RD_W; rfl; intro bk))
    exact ⟨⟨j + 1, A3, c3, A2, c2, sz, (P2, L), t + 1⟩, OA, ⟨OA, by rw [hss2]; exact hst, OA, hi2⟩, SFA, SOA⟩
   | false =>
    simp only [Bool.false_eq_true, if_false] at hst hi2
    have hsn := sizeA_snoc ab L
    repeat (first | refine walk ?_ | (refine jn ?_; (try intro F); (first | (apply Stp_append; rfl; rfl; (intro A' c'; (focus repeat' constructor)); (intro w' _ hO; exact blkRaw (hO.of (by repeat' constructor))); rfl; rfl; (simp only [maxLen]; omega); omega; intro A' c' hc1 hc2 hc3) | (refine bx ?_; intro bk) | (refine stA ?_) | (apply Stp_pu; exact PuA)); refine fin ?_) | (apply RD_W; rfl; intro bk))
    have hsz : sz + (((bz ab).size : Int) + 1) = (sizeA (L ++ [ab]) : Int) := by rw [hsn, hal2, hss2]; omega
    rw [hsz]
    refine ⟨⟨j + 1, A3, c3, A', c', _, (P2, L ++ [ab]), t + 1⟩, OA, ⟨OA, hst, OA, hi2⟩, ?_, ?_⟩
    ·dsimp only
     rw [List.length_append]
     exact SFA
    ·dsimp only
     rw [List.length_append, List.flatMap_append]
     exact SOA
  ·simp only [decide_eq_false_iff_not, Int.ofNat_lt] at hc2
   rw [List.drop_eq_nil_of_le (by omega), stGo] at hi2
   subst hi2
   repeat (first | refine wkRfW0 ?_ | (refine jn ?_; (try intro F); (refine bx ?_; intro bk); refine fin ?_) | (apply RD_W; rfl; intro bk))
   exact ⟨⟨k + 1, A1, c1, A2, c2, sz, acc, t⟩, OA, ⟨OA, hI, OA, hi⟩, SFA, SOA⟩
 ·simp only [decide_eq_false_iff_not, Int.ofNat_lt] at hc
  rw [List.drop_eq_nil_of_le (by omega), erGo] at hi
  subst hi
  obtain rfl := hI.s
  by_cases h120 : acc.1.length ≤ 120
  ·have b1 : decide ((acc.1.length : Int) ≤ 120) = true := decide_eq_true (by omega)
   have b2 : decide ((sizeA acc.2 : Int) ≤ 250) = decide (sizeA acc.2 ≤ 250) := by rw [decide_eq_decide]; omega
   rw [decide_eq_true h120, Bool.true_and]
   repeat (first | refine und ?_ | (apply RL_pu; rfl; exact PuRfW3) | (apply RD_Q; rfl; rfl; decide +kernel; rfl; rfl; exact QyRfW3) | refine walk1 ?_ | (refine jn ?_; (try intro F); (first | (refine bx ?_; intro bk) | (refine stA ?_) | (apply Stp_pu; first | exact PuRfW3 | exact PuA)); first | refine ⟨_, EndsA, QFRfW3, ?_⟩ | refine fin ?_) | (apply RD_W; rfl; intro bk))
   exact rtA
  ·have b1 : decide ((acc.1.length : Int) ≤ 120) = false := decide_eq_false (by omega)
   rw [decide_eq_false h120, Bool.false_and]
   repeat (first | refine und ?_ | (apply RL_pu; rfl; exact PuRfW4) | (apply RD_Q; rfl; rfl; decide +kernel; rfl; rfl; exact QyRfW4) | refine walk1 ?_ | (refine jn ?_; (try intro F); (first | (refine bx ?_; intro bk) | (refine stA ?_) | (apply Stp_pu; first | exact PuRfW4 | exact PuA)); first | refine ⟨_, EndsA, QFRfW4, ?_⟩ | refine fin ?_) | (apply RD_W; rfl; intro bk))
   exact rtA
end Go.Proofs.YtceekohkjgiabaaGreatDoor
