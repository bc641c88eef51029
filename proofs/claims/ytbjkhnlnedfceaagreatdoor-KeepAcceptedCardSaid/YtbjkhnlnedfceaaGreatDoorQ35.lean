/- Contract: looker.few. Contract: looker.zones. Contract: accept.Check. Contracts: slices.IndexFunc at eras, variant.of, Check$1, Check$2. -/
import Derived.Test.YtbjkhnlnedfceaaGreatDoorQ34
import Derived.Test.YtbjkhnlnedfceaaGreatDoorQ32
import Derived.Test.YtbjkhnlnedfceaaGreatDoorQ11
import Derived.Test.YtbjkhnlnedfceaaGreatDoorQ33
set_option maxHeartbeats 4000000
set_option linter.unusedVariables false
set_option linter.unusedSimpArgs false
namespace Go.Proofs.YtbjkhnlnedfceaaGreatDoor
open Go Go.RowKit Go.Wk
attribute [local irreducible] W RL Does thenQ blockQ retQ Calls Pu Stp RD Qy Ay DoesIn
def pEnc (x : Int × ByteArray) : List Value := [.int .i64 x.1, .string x.2]
def pkV (x : Int × ByteArray) : Value := .agg (pEnc x).toArray
instance : EqE Tryz.prog 190 (Int × ByteArray) pEnc where
 h r s w := by
  unfold pEnc
  simp [go_sem, toList_inj]
  rcases r with ⟨_, _⟩
  rcases s with ⟨_, _⟩
  simp only [ok_ite, Result.ok.injEq, and_true]
  rw [Bool.eq_iff_iff]
  simp
 g := by kernel_rfl
theorem pk_asking (k : Int × ByteArray) (w : World) : ∀ (l : List ((Int × ByteArray) × Int)) (i j : Nat), (Instr.findAsking 190 (pkV k) (cent pkV j l) i).run Tryz.prog w = .ok (cfind k l i) w
 | [], _, _ => rfl
 | x :: l, i, j => by
  have h := EqE.h (P := Tryz.prog) (t := 190) (enc := pEnc) k x.1 w
  rw [cent, Instr.findAsking, cfind]
  simp only [pkV, Op.equal, Op.maxDepth] at h ⊢
  simp only [Sem.run_bind, h, Result.andThen_ok]
  by_cases hk : k = x.1
  ·rw [decide_eq_true hk, if_pos hk]; rfl
  ·rw [decide_eq_false hk, if_neg hk]
   have ih := pk_asking k w l (i + 1) (j + 1)
   simp only [pkV] at ih
   simpa using ih
theorem pk_check' (b : Bool) (k : Int × ByteArray) (d : Nat) (w : World) : (Instr.checkKey b (d + 1 + 1) 190 (.agg (pEnc k).toArray)).run Tryz.prog w = .ok () w := by
 simp [Instr.checkKey, go_sem, pEnc]
instance : KeyT Tryz.prog 190 (Int × ByteArray) pkV where
 ask k l w := by
  cases l with
  | nil => simp [Instr.findKey, go_sem, cent, Instr.findNow, cfind]
  | cons x l =>
   have h := pk_asking k w (x :: l) 0 0
   simp only [cent] at h ⊢
   simp [Instr.findKey, go_sem, Instr.findNow, Instr.sameNow, pkV]
   exact h
 chk b k w := pk_check' b k 9998 w
 stay k w := by simp [Instr.keyThatStays, Instr.sameBits, pkV, pEnc, beq_bytes]
def toM (l : List (ByteArray × Int)) : List (ByteArray × Value) := l.map fun x => (x.1, Value.int .i64 x.2)
theorem toM_get (k : ByteArray) : ∀ l : List (ByteArray × Int), (mget (toM l) k).getD (.int .i64 0) = .int .i64 (cget k l)
 | [] => rfl
 | x :: l => by
  have ih := toM_get k l
  unfold toM at ih ⊢
  rw [List.map_cons, mget, cget]
  by_cases h : k = x.1
  ·rw [if_pos h, if_pos h]; rfl
  ·rw [if_neg h, if_neg h]; exact ih
theorem toM_set (k : ByteArray) (v : Int) : ∀ l : List (ByteArray × Int), mset (toM l) k (.int .i64 v) = toM (cput k v (cins k l))
 | [] => by simp [toM, mset, cins, cput]
 | x :: l => by
  have ih := toM_set k v l
  unfold toM at ih ⊢
  rw [List.map_cons, mset, cins]
  by_cases h : k = x.1
  ·rw [if_pos h, if_pos h, cput, if_pos h]; rfl
  ·rw [if_neg h, if_neg h, cput, if_neg h, ih]; rfl
theorem Stp_mapUpdateC {P : Program} {n : Nat} {wr : World} {fr : Fr} {O : List It} {ty : TypeId} {pos : String} {af : Array Edge} {dst : Option Tmp} {g : Option (Nat × Bool)} {Kp : Value → List It → Prop}
  {t kt et b : Nat} {x ix y : Operand} {m m' : List (ByteArray × Value)} {k : ByteArray} {v : Value} {O' : List It} [hM : MapT P t kt et] [StringT P kt] (hx : ev fr x = some (.map (some b))) (hi : ev fr ix = some (.string k)) (hy : ev fr y = some v) (hm : mset m k v = m')
  (hu : Upd O (.mp b m) (.mp b m') O') (kk : Kp undef O') : Stp P n wr fr O ⟨dst, .mapUpdate t x ix y, ty, pos, af, g⟩ Kp := Stp_mapUpdate hx hi hy (hm ▸ hu) kk
theorem statesOf_len (rs : List DRule) (e : DEra) : (statesOf rs e).length ≤ rs.length + 1 := by
 unfold statesOf
 have := setOf_len rs e
 split
 ·simp
 ·split
  ·rw [List.length_map]; omega
  ·simp
theorem statesOf_let {rs : List DRule} {e : DEra} (hr : ∀ r ∈ rs, r.letter.size ≤ 1000000000) : ∀ x ∈ statesOf rs e, x.2.size ≤ 1000000000 := by
 intro x hx
 unfold statesOf at hx
 split at hx
 ·simp only [List.mem_singleton] at hx; subst hx; exact Nat.zero_le _
 ·split at hx
  ·obtain ⟨r, h, rfl⟩ := List.mem_map.1 hx
   exact hr r (setOf_sub h)
  ·simp only [List.mem_singleton] at hx; subst hx; exact Nat.zero_le _
structure FwG where
 k : Nat
 lp : List ((Int × ByteArray) × Int)
 la : List (ByteArray × Int)
 sz : Int
 acc : List (Int × List UInt8) × List (List UInt8)
 t : Nat
theorem PuFewB0 {G : Prop} (h : G := by (first | (apply Pu_indexAddrH; rfl; rfl; omega; omega; (intro w' _ hO; exact (row_cell (hO.of (A := .row (.slice A5 S.length c5) 72 2 S.length (S.flatMap stEnc)) (by repeat' constructor)) hg1).1)) | (apply Pu_loadRN; rfl; (focus repeat' constructor); exact hgn; rfl) | (apply Pu_clook (kv := pkV) (k := (e.off + x.1, bz ab)); rfl; rfl; (focus repeat' constructor); first | exact rfl | exact cget_cins _ _) | (apply Pu_lookupC; rfl; rfl; (focus repeat' constructor); first | exact toM_get _ la | exact hl2) | (apply Pu_eqlB; rfl; rfl; exact hb))) : G := h
theorem QyFewB0 {G : Prop} (h : G := by first | (apply Qy_y; rfl; exact PuFewB0) | exact QyA) : G := h
theorem QFFewB0 {G : Prop} (h : G := by repeat (first | exact QF.nil | (apply QF.mk; rfl; rfl; decide +kernel; exact QyFewB0))) : G := h
theorem PuFewB1 {G : Prop} (h : G := by (first | (apply Pu_clen (kv := pkV); rfl; (focus repeat' constructor)) | (apply Pu_leqB; rfl; rfl; exact b1))) : G := h
theorem QyFewB1 {G : Prop} (h : G := by first | (apply Qy_y; rfl; exact PuFewB1) | exact QyA) : G := h
theorem QFFewB1 {G : Prop} (h : G := by repeat (first | exact QF.nil | (apply QF.mk; rfl; rfl; decide +kernel; exact QyFewB1))) : G := h
set_option maxHeartbeats 2000000 in
theorem afew_spec (Ar Az Al As : Option Addr) (cr cz cl cs : Nat) (a : DSource) (z : DZone) (Ae : Option Addr) (ce : Nat) (w : World) (hL : LibW w) (hA : RdSource w Ar Az Al As cr cz cl cs a) (hE : RdSl w Ae ce DEra.enc 13 z.eras) (hS : SrcOk a) (hV : SavOk a) (hel : z.eras.length ≤ 1000000)
  (hZ : ∀ e ∈ z.eras, EraOk e) (hH : ∀ e ∈ z.eras, ∀ x ∈ statesOf a.rules e, hoursB e.off x.1 = true) :
  Does Tryz.prog 91 [srcV Ar Az Al As cr cz cl cs a, .agg #[.string z.name, .slice Ae z.eras.length ce]] w (fun v O => v = .bool (fewB25 a.rules z) ∧ O = []) := by
 have hn := hS.nr
 unfold fewB25
 obtain ⟨R, hR⟩ : ∃ R, erGo a.rules z.eras ([], []) = R := ⟨_, rfl⟩
 rw [hR]
 refine Does_of_W Tryz.func91 rfl rfl rfl rfl ?_
 repeat (first | refine walk ?_ | (refine jn ?_; (try intro F); (first | (apply Stp_cmake (t := 188) pkV; intro bk) | (refine bx ?_; intro bk) | (refine stA ?_) | (apply Stp_pu; exact PuA)); refine fin ?_) | (apply RD_W; rfl; intro bk))
 rename_i b1 b2 bp
 generalize bk = ba
 refine W_loopF [(2, .pointer (some ⟨b1, 0, none⟩)), (5, .map (some bp)), (6, .map (some ba)), (17, .slice Ae z.eras.length ce), (18, .int .i64 z.eras.length)] [.blk b1 [.slice Ar a.rules.length cr, .slice Az a.zones.length cz, .slice Al a.links.length cl, .slice As a.shifts.length cs] 97]
  (fun g : FwG => [(7, .int .i64 g.sz), (19, .int .i64 g.k)]) (fun g => [cmIt pkV bp g.lp, .mp ba (toM g.la)]) (fun g => g.k ≤ z.eras.length ∧ FewI g.lp g.la g.sz g.acc g.t ∧ g.t ≤ g.k * 2000000 ∧ erGo a.rules (z.eras.drop g.k) g.acc = R)
  (fun g => z.eras.length - g.k) ⟨0, [], [], 0, ([], []), 0⟩ SFA SOA ⟨Nat.zero_le _, FewI.nil, Nat.le_refl _, hR⟩ ?_
 clear hR
 rintro ⟨k, lp, la, sz, acc, t⟩ ⟨hk, hI, ht, hi⟩
 dsimp only at hk hI ht hi ⊢
 repeat (first | refine walk ?_ | (refine jn ?_; (try intro F); (first | (refine bx ?_; intro bk) | (refine stA ?_) | (apply Stp_pu; exact PuA)); refine fin ?_) | (apply RD_W; rfl; intro bk))
 refine W_cond rfl (fun hc => ?_) (fun hc => ?_)
 ·simp only [decide_eq_true_eq, Int.ofNat_lt] at hc
  obtain ⟨hna, hca⟩ := hE.rd k _ (List.getElem?_eq_getElem hc)
  have hem := List.getElem_mem hc
  rw [drop_cons hc, erGo] at hi
  generalize z.eras[k] = e at *
  have hSl := statesOf_len a.rules e
  have hlet := statesOf_let (e := e) fun r hr => (hS.rs r hr).2
  have h64 := statesOf_64 (e := e) (fun r h => hV.i64 r h) (hZ e hem).save
  have hss := fun w' (hw : Bel w.heap.size w w') => states_spec Ar Az Al As cr cz cl cs a e w' (hA.up hw) hn
  have hZe := hZ e hem
  have hHe := hH e hem
  generalize statesOf a.rules e = S at *
  obtain ⟨R2, hR2⟩ : ∃ R2, stGo e S acc = R2 := ⟨_, rfl⟩
  rw [hR2] at hi
  simp only [DEra.enc] at hss hca
  repeat (first | (apply RL_pu; rfl; exact PuI) | (apply RD_Q; rfl; rfl; decide +kernel; rfl; rfl; exact QyI) | refine walk1 ?_ | (refine jg ?_; (try intro F); (first | (apply Stp_call (h := fun w' hw _ => hss w' hw); rfl; rintro v O' ⟨A5, c5, rfl, rfl⟩) | (refine bx ?_; intro bk) | (refine stA ?_)); first | refine ⟨_, EndsA, QFI, ?_⟩ | refine fin ?_) | (refine jn ?_; (try intro F); (first | (refine bx ?_; intro bk) | (refine stA ?_) | (apply Stp_pu; first | exact PuI | exact PuA)); first | refine ⟨_, EndsA, QFI, ?_⟩ | refine fin ?_) | (apply RD_W; rfl; intro bk))
  generalize bk = b9
  refine W_loopF [(2, .pointer (some ⟨b1, 0, none⟩)), (5, .map (some bp)), (6, .map (some ba)), (9, .pointer (some ⟨b9, 0, none⟩)), (17, .slice Ae z.eras.length ce), (18, .int .i64 z.eras.length), (19, .int .i64 k), (25, .slice A5 S.length c5), (26, .int .i64 S.length)]
   [.blk b1 [.slice Ar a.rules.length cr, .slice Az a.zones.length cz, .slice Al a.links.length cl, .slice As a.shifts.length cs] 97, .blk b9 [.int .i64 e.off, .int .i64 e.kind, .int .i64 e.save, .string e.set, .string e.format, .bool e.til.is, .int .i64 e.til.year, .int .i64 e.til.month, .int .i64 e.til.day.kind, .int .i64 e.til.day.week, .int .i64 e.til.day.day, .int .i64 e.til.at_.sec, .int .i64 e.til.at_.base] 48, .row (.slice A5 S.length c5) 72 2 S.length (S.flatMap stEnc)]
   (fun g : FwG => [(7, .int .i64 g.sz), (27, .int .i64 g.k)]) (fun g => [cmIt pkV bp g.lp, .mp ba (toM g.la)]) (fun g => g.k ≤ S.length ∧ FewI g.lp g.la g.sz g.acc g.t ∧ g.t ≤ k * 2000000 + g.k ∧ stGo e (S.drop g.k) g.acc = R2)
   (fun g => S.length - g.k) ⟨0, lp, la, sz, acc, t⟩ SFA SOA ⟨Nat.zero_le _, hI, Nat.le_trans ht (Nat.le_add_right _ _), hR2⟩ ?_
  clear hR2 hI ht lp la sz acc t
  rintro ⟨j, lp, la, sz, acc, t⟩ ⟨hj, hI, ht, hi2⟩
  dsimp only at hj hI ht hi2 ⊢
  repeat (first | refine walk ?_ | (refine jn ?_; (try intro F); (first | (refine bx ?_; intro bk) | (refine stA ?_) | (apply Stp_pu; exact PuA)); refine fin ?_) | (apply RD_W; rfl; intro bk))
  refine W_cond rfl (fun hc2 => ?_) (fun hc2 => ?_)
  ·simp only [decide_eq_true_eq, Int.ofNat_lt] at hc2
   have hg1 := flat_get stEnc.len S j _ 0 _ (List.getElem?_eq_getElem hc2) rfl
   have hgn : ∀ i v, (stEnc S[j])[i]? = some v → (S.flatMap stEnc)[j * 2 + i]? = some v := fun i v hv => flat_get stEnc.len S j _ i v (List.getElem?_eq_getElem hc2) hv
   have hxm := List.getElem_mem hc2
   rw [drop_cons hc2, stGo] at hi2
   generalize S[j] = x at *
   have hfa := fun w' (hw : Bel w.heap.size w w') => fabbr_spec e.format x.2 e.off x.1 w' (hL.up hw) hZe.fmt (hlet x hxm) hZe.off (h64 x hxm)
   have hal := abbrF_len e.format.data.toList e.off x.1 x.2.data.toList
   have hho := hHe x hxm
   unfold hoursB at hho
   simp only [Bool.and_eq_true, decide_eq_true_eq] at hho
   obtain ⟨hh1, hh2⟩ := hho
   generalize abbrF e.format.data.toList e.off x.1 x.2.data.toList = abr at *
   obtain ⟨ab, er⟩ := abr
   dsimp only at hi2 hal
   replace hfa : ∀ w', Bel w.heap.size w w' → Does Tryz.prog 24 [.string e.format, .int .i64 e.off, .agg #[.int .i64 x.1, .string x.2]] w' (fun v O => v = .tuple #[.string (bz ab), .int .i64 er] ∧ O = []) := hfa
   simp only [stEnc] at hgn hg1
   have hcp := hI.cp.get (e.off + x.1, bz ab)
   have hcq := hI.ca.get (bz ab)
   have hsz := bz_size ab
   have hlim := hI.lim
   have hst := hI.step (e.off + x.1) ab hal
   have hl2 : (mget (toM (cput (bz ab) (cget (bz ab) la + 1) (cins (bz ab) la))) (bz ab)).getD (.int .i64 0) = .int .i64 (cget (bz ab) la + 1) := (toM_get _ _).trans (by rw [cget_cput _ _ _ (cins_mem _ _)])
   by_cases hnew : cget (bz ab) la + 1 = 1
   ·rw [if_pos hnew] at hst
    have hb : decide (cget (bz ab) la + 1 = 1) = true := decide_eq_true hnew
    repeat (first | (apply RL_pu; rfl; exact PuFewB0) | (refine js ?_; (first | (refine callE hfa ?_) | (apply Stp_centry (kv := pkV) (k := (e.off + x.1, bz ab)) (l := lp); rfl; rfl; (focus repeat' constructor)) | (apply Stp_cstore (kv := pkV) (k := (e.off + x.1, bz ab)) (l := lp); rfl; rfl; rfl; (focus repeat' constructor)) | (apply Stp_mapUpdateC; rfl; rfl; rfl; exact toM_set _ _ la; (focus repeat' constructor)) | (refine bx ?_; intro bk))) | (apply RD_Q; rfl; rfl; decide +kernel; rfl; rfl; exact QyFewB0) | refine walk1 ?_ | (refine RD_G0w ?_; intro F; (refine callE hfa ?_); refine ⟨_, EndsA, SubO.right _ _, ?_⟩) | (refine RD_Lw ?_; intro F; (first | (refine callE hfa ?_) | (apply Stp_centry (kv := pkV) (k := (e.off + x.1, bz ab)) (l := lp); rfl; rfl; (focus repeat' constructor)) | (apply Stp_cstore (kv := pkV) (k := (e.off + x.1, bz ab)) (l := lp); rfl; rfl; rfl; (focus repeat' constructor)) | (apply Stp_mapUpdateC; rfl; rfl; rfl; exact toM_set _ _ la; (focus repeat' constructor)) | (refine bx ?_; intro bk) | (refine stA ?_) | (apply Stp_pu; first | exact PuFewB0 | exact PuA)); refine ⟨_, EndsA, QFFewB0, ?_⟩) | (apply RD_W; rfl; intro bk))
    exact ⟨⟨j + 1, cinc (e.off + x.1, bz ab) lp, cinc (bz ab) la, sz + (((bz ab).size : Int) + 1), _, t + 1⟩, OA, ⟨OA, by dsimp only; rw [hsz]; exact hst, OA, hi2⟩, SFA, SOA⟩
   ·rw [if_neg hnew] at hst
    have hb : decide (cget (bz ab) la + 1 = 1) = false := decide_eq_false hnew
    repeat (first | (apply RL_pu; rfl; exact PuFewB0) | (refine js ?_; (first | (refine callE hfa ?_) | (apply Stp_centry (kv := pkV) (k := (e.off + x.1, bz ab)) (l := lp); rfl; rfl; (focus repeat' constructor)) | (apply Stp_cstore (kv := pkV) (k := (e.off + x.1, bz ab)) (l := lp); rfl; rfl; rfl; (focus repeat' constructor)) | (apply Stp_mapUpdateC; rfl; rfl; rfl; exact toM_set _ _ la; (focus repeat' constructor)) | (refine bx ?_; intro bk))) | (apply RD_Q; rfl; rfl; decide +kernel; rfl; rfl; exact QyFewB0) | refine walk1 ?_ | (refine RD_G0w ?_; intro F; (refine callE hfa ?_); refine ⟨_, EndsA, SubO.right _ _, ?_⟩) | (refine RD_Lw ?_; intro F; (first | (refine callE hfa ?_) | (apply Stp_centry (kv := pkV) (k := (e.off + x.1, bz ab)) (l := lp); rfl; rfl; (focus repeat' constructor)) | (apply Stp_cstore (kv := pkV) (k := (e.off + x.1, bz ab)) (l := lp); rfl; rfl; rfl; (focus repeat' constructor)) | (apply Stp_mapUpdateC; rfl; rfl; rfl; exact toM_set _ _ la; (focus repeat' constructor)) | (refine bx ?_; intro bk) | (refine stA ?_) | (apply Stp_pu; first | exact PuFewB0 | exact PuA)); refine ⟨_, EndsA, QFFewB0, ?_⟩) | (apply RD_W; rfl; intro bk))
    exact ⟨⟨j + 1, cinc (e.off + x.1, bz ab) lp, cinc (bz ab) la, sz, _, t + 1⟩, OA, ⟨OA, hst, OA, hi2⟩, SFA, SOA⟩
  ·simp only [decide_eq_false_iff_not, Int.ofNat_lt] at hc2
   rw [List.drop_eq_nil_of_le (by omega), stGo] at hi2
   subst hi2
   repeat (first | refine walk ?_ | (refine jn ?_; (try intro F); (first | (refine bx ?_; intro bk) | (refine stA ?_) | (apply Stp_pu; exact PuA)); refine fin ?_) | (apply RD_W; rfl; intro bk))
   exact ⟨⟨k + 1, lp, la, sz, acc, t⟩, OA, ⟨OA, hI, OA, hi⟩, SFA, SOA⟩
 ·simp only [decide_eq_false_iff_not, Int.ofNat_lt] at hc
  rw [List.drop_eq_nil_of_le (by omega), erGo] at hi
  subst hi
  rw [← hI.few]
  by_cases h120 : (lp.length : Int) ≤ 120
  ·have b1 : decide ((lp.length : Int) ≤ 120) = true := decide_eq_true h120
   rw [b1]
   repeat (first | (apply RL_pu; rfl; exact PuFewB1) | (apply RD_Q; rfl; rfl; decide +kernel; rfl; rfl; exact QyFewB1) | refine walk1 ?_ | (refine jn ?_; (try intro F); (first | (refine bx ?_; intro bk) | (refine stA ?_) | (apply Stp_pu; first | exact PuFewB1 | exact PuA)); first | refine ⟨_, EndsA, QFFewB1, ?_⟩ | refine fin ?_) | (apply RD_W; rfl; intro bk))
   exact rtA
  ·have b1 : decide ((lp.length : Int) ≤ 120) = false := decide_eq_false h120
   rw [b1]
   repeat (first | refine und ?_ | (apply RL_pu; rfl; exact PuFewB1) | (apply RD_Q; rfl; rfl; decide +kernel; rfl; rfl; exact QyFewB1) | refine walk1 ?_ | (refine jn ?_; (try intro F); (first | (refine bx ?_; intro bk) | (refine stA ?_) | (apply Stp_pu; first | exact PuFewB1 | exact PuA)); first | refine ⟨_, EndsA, QFFewB1, ?_⟩ | refine fin ?_) | (apply RD_W; rfl; intro bk))
   exact rtA
structure ZnG where
 k : Nat
 p : Int
theorem PuAccI0 {G : Prop} (h : G := by (first | exact PuI | (apply Pu_eqlB; rfl; rfl; exact hb))) : G := h
theorem PuAccI1 {G : Prop} (h : G := by (first | exact PuI | (apply Pu_eqlB; rfl; rfl; exact hbk))) : G := h
theorem PuAccI2 {G : Prop} (h : G := by (first | exact PuAccI1 | (apply Pu_neqB'; rfl; rfl; exact hb2))) : G := h
set_option maxHeartbeats 2000000 in
theorem azones_spec (Ar Az Al As : Option Addr) (cr cz cl cs : Nat) (a : DSource) (w : World) (hL : LibW w) (hG : Glob w) (hA : RdSource w Ar Az Al As cr cz cl cs a) (hS : SrcOk a) (hV : SavOk a) (hZ : ∀ z ∈ a.zones, ∀ e ∈ z.eras, EraOk e) :
  Does Tryz.prog 46 [srcV Ar Az Al As cr cz cl cs a] w (fun v O => v = ptV (zonesGo a.rules a.zones 0) ∧ O = []) := by
 have hnz := hS.nz
 obtain ⟨res, hres⟩ : ∃ res, zonesGo a.rules a.zones 0 = res := ⟨_, rfl⟩
 rw [hres]
 refine Does_of_W Tryz.func46 rfl rfl rfl rfl ?_
 repeat (first | (refine js ?_; (refine bx ?_; intro bk)) | refine walk ?_)
 rename_i b1
 obtain ⟨b2, hb2⟩ : ∃ b2, bk = b2 := ⟨_, rfl⟩
 rw [hb2]
 clear hb2 bk
 refine W_loopF [(1, .pointer (some ⟨b1, 0, none⟩)), (2, .pointer (some ⟨b2, 0, none⟩)), (13, .slice Az a.zones.length cz), (14, .int .i64 a.zones.length)] [.blk b2 [.int .i64 0, .int .i64 0, .int .i64 0] 54, .blk b1 [.slice Ar a.rules.length cr, .slice Az a.zones.length cz, .slice Al a.links.length cl, .slice As a.shifts.length cs] 97]
  (fun k : Nat => [(15, .int .i64 k)]) (fun _ => []) (fun k => k ≤ a.zones.length ∧ zonesGo a.rules (a.zones.drop k) k = res) (fun k => a.zones.length - k) 0 SFA SOA ⟨Nat.zero_le _, hres⟩ ?_
 clear hres
 rintro i ⟨hil, hi⟩
 repeat (first | (refine js ?_; (refine bx ?_; intro bk)) | refine walk ?_)
 refine W_cond rfl (fun hc => ?_) (fun hc => ?_)
 ·simp only [decide_eq_true_eq, Int.ofNat_lt] at hc
  obtain ⟨hna, cs1, ⟨Ae, ce, hEz, rfl⟩, hca⟩ := hA.z i _ (List.getElem?_eq_getElem hc)
  have hmem := List.getElem_mem hc
  rw [drop_cons hc, zonesGo] at hi
  generalize a.zones[i] = z at *
  have hel := (hS.zs z hmem).2.1
  by_cases hz0 : z.eras = []
  ·rw [if_pos hz0] at hi
   subst hi
   have hb : decide ((z.eras.length : Int) = 0) = true := by rw [hz0]; rfl
   simp only [ptV, plV, DPlace.enc]
   repeat (first | (apply RL_pu; rfl; exact PuAccI0) | (refine js ?_; (refine bx ?_; intro bk)) | refine walk1 ?_)
   exact rtC
  have hb : decide ((z.eras.length : Int) = 0) = false := decide_eq_false (fun h => hz0 (List.eq_nil_of_length_eq_zero (by omega)))
  rw [if_neg hz0] at hi
  obtain ⟨r2, hr2⟩ : ∃ r2, erasGo a.rules z.eras i z.eras.length 0 = r2 := ⟨_, rfl⟩
  rw [hr2] at hi
  have hfw : r2 = none → ∀ w', Bel w.heap.size w w' → Does Tryz.prog 91 [srcV Ar Az Al As cr cz cl cs a, .agg #[.string z.name, .slice Ae z.eras.length ce]] w' (fun v O => v = .bool (fewB25 a.rules z) ∧ O = []) := fun hn w' hw =>
   afew_spec Ar Az Al As cr cz cl cs a z Ae ce w' (hL.up hw) (hA.up hw) (hEz.up hw) hS hV hel (fun e he => hZ z hmem e he) (eras_hours (hr2.trans hn))
  generalize fewB25 a.rules z = fw at *
  repeat (first | (apply RL_pu; rfl; exact PuAccI0) | (refine js ?_; (refine bx ?_; intro bk)) | refine walk1 ?_)
  rename_i b5
  obtain ⟨b6, hb6⟩ : ∃ b6, bk = b6 := ⟨_, rfl⟩
  rw [hb6]
  clear hb6 bk
  refine W_loopF [(1, .pointer (some ⟨b1, 0, none⟩)), (2, .pointer (some ⟨b2, 0, none⟩)), (4, .int .i64 i), (5, .pointer (some ⟨b5, 0, none⟩)), (6, .pointer (some ⟨b6, 0, none⟩)), (13, .slice Az a.zones.length cz), (14, .int .i64 a.zones.length), (15, .int .i64 i), (28, .slice Ae z.eras.length ce), (29, .int .i64 z.eras.length)] [.blk b5 [.string z.name, .slice Ae z.eras.length ce] 43, .blk b2 [.int .i64 0, .int .i64 0, .int .i64 0] 54, .blk b1 [.slice Ar a.rules.length cr, .slice Az a.zones.length cz, .slice Al a.links.length cl, .slice As a.shifts.length cs] 97]
   (fun g : ZnG => [(30, .int .i64 g.k)]) (fun g => [.blk b6 [.int .i64 2, .int .i64 i, .int .i64 g.p] 54]) (fun g => g.k ≤ z.eras.length ∧ erasGo a.rules z.eras i (z.eras.length - g.k) g.k = r2) (fun g => z.eras.length - g.k) ⟨0, 0⟩ SFA SOA ⟨Nat.zero_le _, hr2⟩ ?_
  clear hr2
  rintro ⟨k, p⟩ ⟨hkl, hi2⟩
  dsimp only at hkl hi2 ⊢
  repeat (first | (refine js ?_; (refine bx ?_; intro bk)) | refine walk ?_)
  refine W_cond rfl (fun hc2 => ?_) (fun hc2 => ?_)
  ·simp only [decide_eq_true_eq, Int.ofNat_lt] at hc2
   clear hna hca
   obtain ⟨hna, hca⟩ := hEz.rd k _ (List.getElem?_eq_getElem hc2)
   have hem := List.getElem_mem hc2
   have hgd : z.eras.getD k dE0 = z.eras[k] := by rw [List.getD_eq_getElem?_getD, List.getElem?_eq_getElem hc2]; rfl
   obtain ⟨f, hf⟩ : ∃ f, z.eras.length - k = f + 1 := ⟨z.eras.length - k - 1, by omega⟩
   rw [hf, erasGo, hgd] at hi2
   generalize z.eras[k] = e at *
   have hbk : decide ((k : Int) = 0) = decide (k = 0) := by rw [decide_eq_decide]; omega
   generalize decide (k = 0) = fst at *
   have her := fun w' (hw : Bel w.heap.size w w') => lera_spec Ar Az Al As cr cz cl cs a e fst w' (hL.up hw) (hA.up hw) hS hV (hZ z hmem e hem)
   have hen := fun w' (hw : Bel w.heap.size w w') => lend_spec Ar Az Al As cr cz cl cs a Ae ce z.eras k w' (hG.up hw) (hA.up hw) hS hV (hEz.up hw) hel hc2
   generalize eraChk a.rules e fst = ec at *
   generalize endChk a.rules z.eras k = nc at *
   obtain ⟨off, kind, save, set, format, ⟨is, year, month, ⟨dk, dw, dd⟩, ⟨us, ub⟩⟩⟩ := e
   simp only [DEra.enc] at her hca
   by_cases h1 : ec = 0
   ·rw [if_neg (fun h => h h1)] at hi2
    subst h1
    by_cases h2 : nc = 0
    ·rw [if_neg (fun h => h h2)] at hi2
     subst h2
     repeat (first | (apply RL_pu; rfl; exact PuAccI1) | (refine js ?_; (first | (refine callE her ?_) | (refine callE hen ?_) | (refine bx ?_; intro bk))) | refine walk1 ?_)
     exact ⟨⟨k + 1, k⟩, OA, ⟨OA, by dsimp only; rw [show z.eras.length - (k + 1) = f by omega]; exact hi2⟩, SFA, SOA⟩
    ·rw [if_pos h2] at hi2
     subst hi2
     dsimp only at hi
     subst hi
     have hb2 : (!decide (nc = 0)) = true := by rw [decide_eq_false h2]; rfl
     simp only [ptV, plV, DPlace.enc]
     repeat (first | (apply RL_pu; rfl; exact PuAccI2) | (refine js ?_; (first | (refine callE her ?_) | (refine callE hen ?_) | (refine bx ?_; intro bk))) | refine walk1 ?_)
     exact rtC
   ·rw [if_pos h1] at hi2
    subst hi2
    dsimp only at hi
    subst hi
    have hb2 : (!decide (ec = 0)) = true := by rw [decide_eq_false h1]; rfl
    simp only [ptV, plV, DPlace.enc]
    repeat (first | (apply RL_pu; rfl; exact PuAccI2) | (refine js ?_; (first | (refine callE her ?_) | (refine bx ?_; intro bk))) | refine walk1 ?_)
    exact rtC
  ·simp only [decide_eq_false_iff_not, Int.ofNat_lt] at hc2
   rw [show z.eras.length - k = 0 by omega, erasGo] at hi2
   subst hi2
   replace hfw := hfw rfl
   dsimp only at hi
   cases fw with
   | false =>
    rw [if_pos rfl] at hi
    subst hi
    simp only [ptV, plV, DPlace.enc]
    repeat (first | (refine js ?_; (first | (refine callE hfw ?_) | (refine bx ?_; intro bk))) | refine walk ?_)
    exact rtC
   | true =>
    rw [if_neg (by decide)] at hi
    repeat (first | (refine js ?_; (first | (refine callE hfw ?_) | (refine bx ?_; intro bk))) | refine walk ?_)
    exact ⟨i + 1, OA, ⟨OA, hi⟩, SFA, SOA⟩
 ·simp only [decide_eq_false_iff_not, Int.ofNat_lt] at hc
  rw [List.drop_eq_nil_of_le (by omega), zonesGo] at hi
  subst hi
  repeat (first | (refine js ?_; (refine bx ?_; intro bk)) | refine walk ?_)
  exact rtC
end Go.Proofs.YtbjkhnlnedfceaaGreatDoor
namespace Go.Proofs.YtbjkhnlnedfceaaGreatDoor
open Go Go.RowKit Go.Wk
attribute [local irreducible] W RL Does thenQ blockQ retQ Calls Pu Stp RD Qy Ay DoesIn RW
theorem sizesD_ne {s : DSource} {p : DPlace} {e : Int} (h : sizesD s = some (p, e)) : e ≠ 0 := by
 unfold sizesD at h
 repeat' split at h
 all_goals first | (simp only [Option.some.injEq, Prod.mk.injEq] at h; omega) | cases h
theorem setFault_ne {rs : List DRule} {x : ByteArray} {i : Nat} {e : Int} (h : setFault rs x = some (i, e)) : e ≠ 0 := by
 unfold setFault at h
 split at h
 ·simp only [Option.some.injEq, Prod.mk.injEq] at h; omega
 ·split at h
  ·rename_i h2
   simp only [Option.some.injEq] at h
   rw [h] at h2
   exact h2
  ·split at h
   ·simp only [Option.some.injEq, Prod.mk.injEq] at h; omega
   ·cases h
theorem setsGo_ne (rs : List DRule) : ∀ (l : List ByteArray) {p : DPlace} {e : Int}, setsGo rs l = some (p, e) → e ≠ 0
 | [], _, _, h => by cases h
 | x :: l, p, e, h => by
  rw [setsGo] at h
  split at h
  ·rename_i i e2 h2
   simp only [Option.some.injEq, Prod.mk.injEq] at h
   rw [← h.2]
   exact setFault_ne h2
  ·exact setsGo_ne rs l h
theorem shiftsGo_ne (s : DSource) : ∀ (l seen : List ByteArray) (i : Nat) {p : DPlace} {e : Int}, shiftsGo s l seen i = some (p, e) → e ≠ 0
 | [], _, _, _, _, h => by cases h
 | x :: l, seen, i, p, e, h => by
  rw [shiftsGo] at h
  split at h
  ·simp only [Option.some.injEq, Prod.mk.injEq] at h; omega
  ·split at h
   ·simp only [Option.some.injEq, Prod.mk.injEq] at h; omega
   ·split at h
    ·simp only [Option.some.injEq, Prod.mk.injEq] at h; omega
    ·exact shiftsGo_ne s l _ _ h
theorem linkFault_ne (s : DSource) : ∀ (l : List DLink) (i : Nat) {p : DPlace} {e : Int}, linkFault s l i = some (p, e) → e ≠ 0
 | [], _, _, _, h => by cases h
 | x :: l, i, p, e, h => by
  rw [linkFault] at h
  repeat' split at h
  all_goals first | (simp only [Option.some.injEq, Prod.mk.injEq] at h; omega) | exact linkFault_ne s l _ h
theorem loopFault_ne (s : DSource) : ∀ (l : List DLink) (i : Nat) {p : DPlace} {e : Int}, loopFault s l i = some (p, e) → e ≠ 0
 | [], _, _, _, h => by cases h
 | x :: l, i, p, e, h => by
  rw [loopFault] at h
  split at h
  ·simp only [Option.some.injEq, Prod.mk.injEq] at h; omega
  ·exact loopFault_ne s l _ h
theorem linksD_ne {s : DSource} {p : DPlace} {e : Int} (h : linksD s = some (p, e)) : e ≠ 0 := by
 unfold linksD at h
 cases h1 : zoneFault s s.zones 0 with
 | some x => rw [h1] at h; simp only [Option.some_or, Option.some.injEq] at h; subst h; exact zoneFault_ne s _ _ _ _ h1
 | none =>
  rw [h1, Option.none_or] at h
  cases h2 : linkFault s s.links 0 with
  | some x => rw [h2] at h; simp only [Option.some_or, Option.some.injEq] at h; subst h; exact linkFault_ne s _ _ h2
  | none =>
   rw [h2, Option.none_or] at h
   exact loopFault_ne s _ _ h
theorem erasGo_ne (rs : List DRule) (l : List DEra) (i : Nat) : ∀ (f k : Nat) {p : DPlace} {e : Int}, erasGo rs l i f k = some (p, e) → e ≠ 0
 | 0, _, _, _, h => by cases h
 | f + 1, k, p, e, h => by
  rw [erasGo] at h
  split at h
  ·rename_i h2; simp only [Option.some.injEq, Prod.mk.injEq] at h; rw [← h.2]; exact h2
  ·split at h
   ·rename_i h2; simp only [Option.some.injEq, Prod.mk.injEq] at h; rw [← h.2]; exact h2
   ·exact erasGo_ne rs l i f _ h
theorem zonesGo_ne (rs : List DRule) : ∀ (l : List DZone) (i : Nat) {p : DPlace} {e : Int}, zonesGo rs l i = some (p, e) → e ≠ 0
 | [], _, _, _, h => by cases h
 | z :: l, i, p, e, h => by
  rw [zonesGo] at h
  split at h
  ·simp only [Option.some.injEq, Prod.mk.injEq] at h; omega
  ·split at h
   ·rename_i x h2
    simp only [Option.some.injEq] at h
    subst h
    exact erasGo_ne rs _ _ _ _ h2
   ·split at h
    ·simp only [Option.some.injEq, Prod.mk.injEq] at h; omega
    ·exact zonesGo_ne rs l _ h
instance : ZeroT Tryz.prog 98 [.nilFunc] := ⟨by kernel_rfl⟩
theorem PuAccJ0 {G : Prop} (h : G := by (first | (apply Pu_loadBi; rfl; (focus repeat' constructor); rfl) | (apply Pu_neqB'; rfl; rfl; exact hb))) : G := h
theorem PuAccJ1 {G : Prop} (h : G := by (apply Pu_loadBi; rfl; (focus repeat' constructor); rfl)) : G := h
set_option maxHeartbeats 2000000 in
theorem acc_spec (Ar Az Al As : Option Addr) (cr cz cl cs : Nat) (a : DSource) (w : World) (hL : LibW w) (hG : Glob w) (hA : RdSource w Ar Az Al As cr cz cl cs a) (hS : SrcOk a) (hV : SavI a) (hZ : ∀ z ∈ a.zones, ∀ e ∈ z.eras, EraOk e) :
  Does Tryz.prog 20 [srcV Ar Az Al As cr cz cl cs a] w (fun v O => v = ptV (accD a) ∧ O = []) := by
 have h1 : ∀ w', Bel w.heap.size w w' → Does Tryz.prog 42 ([srcV Ar Az Al As cr cz cl cs a] ++ [] ++ []) w' (fun v O => v = ptV (sizesD a) ∧ O = []) := fun w' hw => sizes_spec Ar Az Al As cr cz cl cs a w' (hA.up hw) hS.nz
 have h2 : ∀ w', Bel w.heap.size w w' → Does Tryz.prog 43 ([srcV Ar Az Al As cr cz cl cs a] ++ [] ++ []) w' (fun v O => v = ptV (setsD a) ∧ O = []) := fun w' hw => lsets_spec Ar Az Al As cr cz cl cs a w' (hG.up hw) (hA.up hw) hS hV
 have h3 : ∀ w', Bel w.heap.size w w' → Does Tryz.prog 44 ([srcV Ar Az Al As cr cz cl cs a] ++ [] ++ []) w' (fun v O => v = ptV (shiftsGo a a.shifts [] 0) ∧ O = []) := fun w' hw => lshifts_spec Ar Az Al As cr cz cl cs a w' (hA.up hw) hS
 have h4 : ∀ w', Bel w.heap.size w w' → Does Tryz.prog 45 ([srcV Ar Az Al As cr cz cl cs a] ++ [] ++ []) w' (fun v O => v = ptV (linksD a) ∧ O = []) := fun w' hw => lnames_spec Ar Az Al As cr cz cl cs a w' (hA.up hw) hS
 have h5 : setsD a = none → ∀ w', Bel w.heap.size w w' → Does Tryz.prog 46 ([srcV Ar Az Al As cr cz cl cs a] ++ [] ++ []) w' (fun v O => v = ptV (zonesGo a.rules a.zones 0) ∧ O = []) := fun hs w' hw => azones_spec Ar Az Al As cr cz cl cs a w' (hL.up hw) (hG.up hw) (hA.up hw) hS (setsD_sav hs) hZ
 have n1 := fun {p e} => @sizesD_ne a p e
 have n2 : ∀ {p e}, setsD a = some (p, e) → e ≠ 0 := fun h => setsGo_ne a.rules _ h
 have n3 : ∀ {p e}, shiftsGo a a.shifts [] 0 = some (p, e) → e ≠ 0 := fun h => shiftsGo_ne a _ _ _ h
 have n4 := fun {p e} => @linksD_ne a p e
 have n5 : ∀ {p e}, zonesGo a.rules a.zones 0 = some (p, e) → e ≠ 0 := fun h => zonesGo_ne a.rules _ _ h
 unfold accD
 generalize sizesD a = o1 at *
 generalize setsD a = o2 at *
 generalize shiftsGo a a.shifts [] 0 = o3 at *
 generalize linksD a = o4 at *
 generalize zonesGo a.rules a.zones 0 = o5 at *
 refine Does_of_W Tryz.func20 rfl rfl rfl rfl ?_
 repeat (first | (refine js ?_; (refine bx ?_; intro bk)) | refine walkB ?_)
 refine W_block (W_rounds 6 (RW_succ ?_))
 cases o1 with
 | some x =>
  obtain ⟨⟨p1, p2, p3⟩, e⟩ := x
  have hb : (!decide (e = 0)) = true := by rw [decide_eq_false (n1 rfl)]; rfl
  simp only [Option.some_or, ptV, plV, DPlace.enc] at h1 ⊢
  repeat (first | (apply RL_pu; rfl; exact PuAccJ0) | (refine js ?_; (first | (refine callV (fun w' hw _ => h1 w' hw) ?_) | (refine bx ?_; intro bk))) | refine walk1 ?_)
  exact rtC
 | none =>
 simp only [ptV, plV, DPlace.enc] at h1
 rw [Option.none_or]
 repeat (first | (apply RL_pu; rfl; exact PuAccJ1) | (refine js ?_; (first | (refine callV (fun w' hw _ => h1 w' hw) ?_) | (refine bx ?_; intro bk))) | refine walk1 ?_)
 refine RW_succ ?_
 cases o2 with
 | some x =>
  obtain ⟨⟨p1, p2, p3⟩, e⟩ := x
  have hb : (!decide (e = 0)) = true := by rw [decide_eq_false (n2 rfl)]; rfl
  simp only [Option.some_or, ptV, plV, DPlace.enc] at h2 ⊢
  repeat (first | (apply RL_pu; rfl; exact PuAccJ0) | (refine js ?_; (first | (refine callV (fun w' hw _ => h2 w' hw) ?_) | (refine bx ?_; intro bk))) | refine walk1 ?_)
  exact rtC
 | none =>
 replace h5 := h5 rfl
 simp only [ptV, plV, DPlace.enc] at h2
 rw [Option.none_or]
 repeat (first | (apply RL_pu; rfl; exact PuAccJ1) | (refine js ?_; (first | (refine callV (fun w' hw _ => h2 w' hw) ?_) | (refine bx ?_; intro bk))) | refine walk1 ?_)
 refine RW_succ ?_
 cases o3 with
 | some x =>
  obtain ⟨⟨p1, p2, p3⟩, e⟩ := x
  have hb : (!decide (e = 0)) = true := by rw [decide_eq_false (n3 rfl)]; rfl
  simp only [Option.some_or, ptV, plV, DPlace.enc] at h3 ⊢
  repeat (first | (apply RL_pu; rfl; exact PuAccJ0) | (refine js ?_; (first | (refine callV (fun w' hw _ => h3 w' hw) ?_) | (refine bx ?_; intro bk))) | refine walk1 ?_)
  exact rtC
 | none =>
 simp only [ptV, plV, DPlace.enc] at h3
 rw [Option.none_or]
 repeat (first | (apply RL_pu; rfl; exact PuAccJ1) | (refine js ?_; (first | (refine callV (fun w' hw _ => h3 w' hw) ?_) | (refine bx ?_; intro bk))) | refine walk1 ?_)
 refine RW_succ ?_
 cases o4 with
 | some x =>
  obtain ⟨⟨p1, p2, p3⟩, e⟩ := x
  have hb : (!decide (e = 0)) = true := by rw [decide_eq_false (n4 rfl)]; rfl
  simp only [Option.some_or, ptV, plV, DPlace.enc] at h4 ⊢
  repeat (first | (apply RL_pu; rfl; exact PuAccJ0) | (refine js ?_; (first | (refine callV (fun w' hw _ => h4 w' hw) ?_) | (refine bx ?_; intro bk))) | refine walk1 ?_)
  exact rtC
 | none =>
 simp only [ptV, plV, DPlace.enc] at h4
 rw [Option.none_or]
 repeat (first | (apply RL_pu; rfl; exact PuAccJ1) | (refine js ?_; (first | (refine callV (fun w' hw _ => h4 w' hw) ?_) | (refine bx ?_; intro bk))) | refine walk1 ?_)
 refine RW_succ ?_
 cases o5 with
 | some x =>
  obtain ⟨⟨p1, p2, p3⟩, e⟩ := x
  have hb : (!decide (e = 0)) = true := by rw [decide_eq_false (n5 rfl)]; rfl
  simp only [ptV, plV, DPlace.enc] at h5 ⊢
  repeat (first | (apply RL_pu; rfl; exact PuAccJ0) | (refine js ?_; (first | (refine callV (fun w' hw _ => h5 w' hw) ?_) | (refine bx ?_; intro bk))) | refine walk1 ?_)
  exact rtC
 | none =>
 simp only [ptV, plV, DPlace.enc] at h5 ⊢
 repeat (first | (apply RL_pu; rfl; exact PuAccJ1) | (refine js ?_; (first | (refine callV (fun w' hw _ => h5 w' hw) ?_) | (refine bx ?_; intro bk))) | refine walk1 ?_)
 refine RW_succ ?_
 repeat (first | (refine js ?_; (refine bx ?_; intro bk)) | refine walk ?_)
 exact rtC
end Go.Proofs.YtbjkhnlnedfceaaGreatDoor
namespace Go.Proofs.YtbjkhnlnedfceaaGreatDoor
open Go Go.RowKit Go.Wk
attribute [local irreducible] W RL Does thenQ blockQ retQ Calls Pu Stp RD Qy Ay DoesIn
theorem indexEr_spec (A : Option Addr) (c : Nat) (l : List DEra) (f : FuncId) [Body Tryz.prog f] (us cs : List Value) (p : DEra → Bool) (w : World) (hA : RdSl w A c DEra.enc 13 l)
  (hf : ∀ r ∈ l, ∀ w', Bel w.heap.size w w' → Does Tryz.prog f (us ++ [.agg (DEra.enc r).toArray] ++ cs) w' (fun v O => v = .bool (p r) ∧ O = [])) :
  Does Tryz.prog 36 [.slice A l.length c, .func (.func f) us.toArray cs.toArray] w (fun v O => v = .int .i64 (findI p l 0) ∧ O = []) := by
 have hs1 := hA.le
 have hs2 := hA.cap
 unfold maxLen at hs2
 generalize hres : findI p l 0 = res
 refine Does_of_W Tryz.func36 rfl rfl rfl rfl ?_
 repeat (first | refine walk ?_)
 refine W_loopF [(0, _), (1, _), (4, _), (7, _)] _ (fun k : Nat => [(8, .int .i64 k)]) (fun _ => []) (fun k => k ≤ l.length ∧ findI p (l.drop k) k = res) (fun k => l.length - k) 0 ⟨rfl, rfl, rfl, rfl, rfl, trivial⟩ (.refl _) ⟨by omega, by simpa using hres⟩ ?_
 rintro k ⟨hk, hi⟩
 repeat (first | refine walk ?_)
 refine W_cond rfl (fun hc => ?_) (fun hc => ?_)
 ·simp only [decide_eq_true_eq, Int.ofNat_lt] at hc
  obtain ⟨hna, hca⟩ := hA.rd k _ (List.getElem?_eq_getElem hc)
  have hnb := hna
  have hcb := hca
  rw [drop_cons hc, findI] at hi
  have hrm := List.getElem_mem hc
  generalize l[k] = r at *
  repeat (first | (apply RL_pu; rfl; exact PuI) | (refine js ?_; (refine callV (fun w' hw _ => hf r hrm w' hw) ?_)) | refine walk1 ?_)
  refine W_cond rfl (fun h3 => ?_) (fun h3 => ?_)
  ·repeat (first | refine walk ?_)
   rw [if_pos h3] at hi
   exact ret_1 _ [] (.tmp rfl) .nil ⟨by rw [← hi], rfl⟩
  repeat (first | refine walk ?_)
  rw [h3] at hi
  exact ⟨k + 1, by omega, ⟨by omega, hi⟩, SFA, SOA⟩
 simp only [decide_eq_false_iff_not, Int.ofNat_lt] at hc
 repeat (first | refine walk ?_)
 exact ret_1 _ [] (.tmp rfl) .nil ⟨by rw [← hi, List.drop_eq_nil_of_le (by omega)]; rfl, rfl⟩
theorem var1_spec (r : DRule) (ad : Addr) (a1 : Bool) (w : World) (h : w.cell? (ad.add 1) = some (.bool a1)) : Does Tryz.prog 77 [.agg (DRule.enc r).toArray, .pointer (some ad)] w (fun v O => v = .bool (decide (r.save < 0) && !a1) ∧ O = []) := by
 obtain ⟨nm, fr, to, mo, ⟨dk, dw, dd⟩, ⟨us, ub⟩, sv, le⟩ := r
 show Does _ _ [.agg #[.string nm, .int .i64 fr, .int .i64 to, .int .i64 mo, .int .i64 dk, .int .i64 dw, .int .i64 dd, .int .i64 us, .int .i64 ub, .int .i64 sv, .string le], .pointer (some ad)] w _
 refine Does_of_W Tryz.func77 rfl rfl rfl rfl ?_
 repeat' (first | (apply RL_pu; rfl; (apply Pu_loadO1; rfl; exact h)) | (refine js ?_; (refine bx ?_; intro bk)) | refine walk1 ?_ | refine und ?_ | (refine RL_gsplit rfl rfl rfl (fun hc => ?_) (fun hc => ?_)) | (refine RD_gsplit rfl rfl rfl (fun hc => ?_) (fun hc => ?_)) | (refine W_cond rfl (fun hc => ?_) (fun hc => ?_)))
 all_goals exact clo1
theorem var2_spec (e : DEra) (ad : Addr) (a2 a3 : Bool) (w : World) (hL : LibW w) (hf : e.format.size ≤ 1000000000) (h2 : w.cell? (ad.add 2) = some (.bool a2)) (h3 : w.cell? (ad.add 3) = some (.bool a3)) :
  Does Tryz.prog 78 [.agg (DEra.enc e).toArray, .pointer (some ad)] w (fun v O => v = .bool ((decide (kindF e.format.data.toList = 4) && !a2) || (decide (kindF e.format.data.toList = 5) && !a3)) ∧ O = []) := by
 have hk := fun w' (hw : Bel w.heap.size w w') => kind_spec e.format w' (hL.up hw) hf
 obtain ⟨off, kind, save, set, format, til⟩ := e
 dsimp only at hk hf ⊢
 generalize kindF format.data.toList = K at *
 obtain ⟨k4, e4⟩ : ∃ b, decide (K = 4) = b := ⟨_, rfl⟩
 obtain ⟨k5, e5⟩ : ∃ b, decide (K = 5) = b := ⟨_, rfl⟩
 rw [e4, e5]
 simp only [DEra.enc]
 refine Does_of_W Tryz.func78 rfl rfl rfl rfl ?_
 repeat' (first | (apply RL_pu; rfl; (first | (apply Pu_loadO1; rfl; exact h2) | (apply Pu_loadO1; rfl; exact h3) | (apply Pu_eqlB; rfl; rfl; exact e4) | (apply Pu_eqlB; rfl; rfl; exact e5))) | (refine js ?_; (first | (refine callE hk ?_) | (refine bx ?_; intro bk))) | refine walk1 ?_ | refine und ?_ | (refine RL_gsplit rfl rfl rfl (fun hc => ?_) (fun hc => ?_)) | (refine RD_gsplit rfl rfl rfl (fun hc => ?_) (fun hc => ?_)) | (refine W_cond rfl (fun hc => ?_) (fun hc => ?_)))
 all_goals exact clo1
end Go.Proofs.YtbjkhnlnedfceaaGreatDoor
