/- Contract: looker.few. -/
import Derived.Test.YtonjepladadmhaaGreatDoorS35
import Derived.Test.YtonjepladadmhaaGreatDoorS33
import Derived.Test.YtonjepladadmhaaGreatDoorS07
set_option maxHeartbeats 4000000
set_option linter.unusedVariables false
set_option linter.unusedSimpArgs false
namespace Go.Proofs.YtonjepladadmhaaGreatDoor
open Go Go.RowKit Go.Wk
attribute [local irreducible] W RL Does thenQ blockQ retQ Calls Pu Stp RD Qy Ay DoesIn
def pEnc (x : Int × ByteArray) : List Value := [.int .i64 x.1, .string x.2]
def pkV (x : Int × ByteArray) : Value := .agg (pEnc x).toArray
instance : EqE Tryz.prog 258 (Int × ByteArray) pEnc where
 h r s w := by
  unfold pEnc
  simp [go_sem, toList_inj]
  rcases r with ⟨_, _⟩
  rcases s with ⟨_, _⟩
  simp only [ok_ite, Result.ok.injEq, and_true]
  rw [Bool.eq_iff_iff]
  simp
 g := by kernel_rfl
theorem pk_asking (k : Int × ByteArray) (w : World) : ∀ (l : List ((Int × ByteArray) × Int)) (i j : Nat), (Instr.findAsking 258 (pkV k) (cent pkV j l) i).run Tryz.prog w = .ok (cfind k l i) w
 | [], _, _ => rfl
 | x :: l, i, j => by
  have h := EqE.h (P := Tryz.prog) (t := 258) (enc := pEnc) k x.1 w
  rw [cent, Instr.findAsking, cfind]
  simp only [pkV, Op.equal, Op.maxDepth] at h ⊢
  simp only [Sem.run_bind, h, Result.andThen_ok]
  by_cases hk : k = x.1
  ·rw [decide_eq_true hk, if_pos hk]; rfl
  ·rw [decide_eq_false hk, if_neg hk]
   have ih := pk_asking k w l (i + 1) (j + 1)
   simp only [pkV] at ih
   simpa using ih
theorem pk_check' (b : Bool) (k : Int × ByteArray) (d : Nat) (w : World) : (Instr.checkKey b (d + 1 + 1) 258 (.agg (pEnc k).toArray)).run Tryz.prog w = .ok () w := by
 simp [Instr.checkKey, go_sem, pEnc]
instance : KeyT Tryz.prog 258 (Int × ByteArray) pkV where
 ask k l w := by
  cases l with
  | nil => simp [Instr.findKey, go_sem, cent, Instr.findNow, cfind]
  | cons x l =>
   have h := pk_asking k w (x :: l) 0 0
   simp only [cent] at h ⊢
   simp [Instr.findKey, go_sem, Instr.findNow, Instr.sameNow, pkV]
   exact h
 chk b k w := pk_check' b k 9998 w
 stay k w := by simp [Instr.keyThatStays, Instr.sameBits, pkV, pEnc, beq_bytes]
def toM (l : List (ByteArray × Int)) : List (ByteArray × Value) := l.map fun x => (x.1, Value.int .i64 x.2)
theorem toM_get (k : ByteArray) : ∀ l : List (ByteArray × Int), (mget (toM l) k).getD (.int .i64 0) = .int .i64 (cget k l)
 | [] => rfl
 | x :: l => by
  have ih := toM_get k l
  unfold toM at ih ⊢
  rw [List.map_cons, mget, cget]
  by_cases h : k = x.1
  ·rw [if_pos h, if_pos h]; rfl
  ·rw [if_neg h, if_neg h]; exact ih
theorem toM_set (k : ByteArray) (v : Int) : ∀ l : List (ByteArray × Int), mset (toM l) k (.int .i64 v) = toM (cput k v (cins k l))
 | [] => by simp [toM, mset, cins, cput]
 | x :: l => by
  have ih := toM_set k v l
  unfold toM at ih ⊢
  rw [List.map_cons, mset, cins]
  by_cases h : k = x.1
  ·rw [if_pos h, if_pos h, cput, if_pos h]; rfl
  ·rw [if_neg h, if_neg h, cput, if_neg h, ih]; rfl
theorem Stp_mapUpdateC {P : Program} {n : Nat} {wr : World} {fr : Fr} {O : List It} {ty : TypeId} {pos : String} {af : Array Edge} {dst : Option Tmp} {g : Option (Nat × Bool)} {Kp : Value → List It → Prop}
  {t kt et b : Nat} {x ix y : Operand} {m m' : List (ByteArray × Value)} {k : ByteArray} {v : Value} {O' : List It} [hM : MapT P t kt et] [StringT P kt] (hx : ev fr x = some (.map (some b))) (hi : ev fr ix = some (.string k)) (hy : ev fr y = some v) (hm : mset m k v = m')
  (hu : Upd O (.mp b m) (.mp b m') O') (kk : Kp undef O') : Stp P n wr fr O ⟨dst, .mapUpdate t x ix y, ty, pos, af, g⟩ Kp := Stp_mapUpdate hx hi hy (hm ▸ hu) kk
theorem statesOf_len (rs : List DRule) (e : DEra) : (statesOf rs e).length ≤ rs.length + 1 := by
 unfold statesOf
 have := setOf_len rs e
 split
 ·simp
 ·split
  ·rw [List.length_map]; omega
  ·simp
theorem statesOf_let {rs : List DRule} {e : DEra} (hr : ∀ r ∈ rs, r.letter.size ≤ 1000000000) : ∀ x ∈ statesOf rs e, x.2.size ≤ 1000000000 := by
 intro x hx
 unfold statesOf at hx
 split at hx
 ·simp only [List.mem_singleton] at hx; subst hx; exact Nat.zero_le _
 ·split at hx
  ·obtain ⟨r, h, rfl⟩ := List.mem_map.1 hx
   exact hr r (setOf_sub h)
  ·simp only [List.mem_singleton] at hx; subst hx; exact Nat.zero_le _
structure FwG where
 k : Nat
 lp : List ((Int × ByteArray) × Int)
 la : List (ByteArray × Int)
 sz : Int
 acc : List (Int × List UInt8) × List (List UInt8)
 t : Nat
theorem PuFewB0 {G : Prop} (h : G := by (first | (apply Pu_indexAddrH; rfl; rfl; omega; omega; (intro w' _ hO; exact (row_cell (hO.of (A := .row (.slice A5 S.length c5) 88 2 S.length (S.flatMap stEnc)) (by repeat' constructor)) hg1).1)) | (apply Pu_loadRN; rfl; (focus repeat' constructor); exact hgn; rfl) | (apply Pu_clook (kv := pkV) (k := (e.off + x.1, bz ab)); rfl; rfl; (focus repeat' constructor); first | exact rfl | exact cget_cins _ _) | (apply Pu_lookupC; rfl; rfl; (focus repeat' constructor); first | exact toM_get _ la | exact hl2) | (apply Pu_eqlB; rfl; rfl; exact hb))) : G := h
theorem QyFewB0 {G : Prop} (h : G := by first | (apply Qy_y; rfl; exact PuFewB0) | exact QyA) : G := h
theorem QFFewB0 {G : Prop} (h : G := by repeat (first | exact QF.nil | (apply QF.mk; rfl; rfl; decide +kernel; exact QyFewB0))) : G := h
theorem PuFewB1 {G : Prop} (h : G := by (first | (apply Pu_clen (kv := pkV); rfl; (focus repeat' constructor)) | (apply Pu_leqB; rfl; rfl; exact b1))) : G := h
theorem QyFewB1 {G : Prop} (h : G := by first | (apply Qy_y; rfl; exact PuFewB1) | exact QyA) : G := h
theorem QFFewB1 {G : Prop} (h : G := by repeat (first | exact QF.nil | (apply QF.mk; rfl; rfl; decide +kernel; exact QyFewB1))) : G := h
set_option maxHeartbeats 2000000 in
theorem afew_spec (Ar Az Al As : Option Addr) (cr cz cl cs : Nat) (a : DSource) (z : DZone) (Ae : Option Addr) (ce : Nat) (w : World) (hL : LibW w) (hA : RdSource w Ar Az Al As cr cz cl cs a) (hE : RdSl w Ae ce DEra.enc 13 z.eras) (hS : SrcOk a) (hV : SavOk a) (hel : z.eras.length ≤ 1000000)
  (hZ : ∀ e ∈ z.eras, EraOk e) (hH : ∀ e ∈ z.eras, ∀ x ∈ statesOf a.rules e, hoursB e.off x.1 = true) :
  Does Tryz.prog 115 [srcV Ar Az Al As cr cz cl cs a, .agg #[.string z.name, .slice Ae z.eras.length ce]] w (fun v O => v = .bool (fewB25 a.rules z) ∧ O = []) := by
 have hn := hS.nr
 unfold fewB25
 obtain ⟨R, hR⟩ : ∃ R, erGo a.rules z.eras ([], []) = R := ⟨_, rfl⟩
 rw [hR]
 refine Does_of_W Tryz.func115 rfl rfl rfl rfl ?_
 repeat (first | refine walk ?_ | (refine jn ?_; (try intro F); (first | (apply Stp_cmake (t := 256) pkV; intro bk) | (refine bx ?_; intro bk) | (refine stA ?_) | (apply Stp_pu; exact PuA)); refine fin ?_) | (apply RD_W; rfl; intro bk))
 rename_i b1 b2 bp
 generalize bk = ba
 refine W_loopF [(2, .pointer (some ⟨b1, 0, none⟩)), (5, .map (some bp)), (6, .map (some ba)), (17, .slice Ae z.eras.length ce), (18, .int .i64 z.eras.length)] [.blk b1 [.slice Ar a.rules.length cr, .slice Az a.zones.length cz, .slice Al a.links.length cl, .slice As a.shifts.length cs] 137]
  (fun g : FwG => [(7, .int .i64 g.sz), (19, .int .i64 g.k)]) (fun g => [cmIt pkV bp g.lp, .mp ba (toM g.la)]) (fun g => g.k ≤ z.eras.length ∧ FewI g.lp g.la g.sz g.acc g.t ∧ g.t ≤ g.k * 2000000 ∧ erGo a.rules (z.eras.drop g.k) g.acc = R)
  (fun g => z.eras.length - g.k) ⟨0, [], [], 0, ([], []), 0⟩ SFA SOA ⟨Nat.zero_le _, FewI.nil, Nat.le_refl _, hR⟩ ?_
 clear hR
 rintro ⟨k, lp, la, sz, acc, t⟩ ⟨hk, hI, ht, hi⟩
 dsimp only at hk hI ht hi ⊢
 repeat (first | refine walk ?_ | (refine jn ?_; (try intro F); (first | (refine bx ?_; intro bk) | (refine stA ?_) | (apply Stp_pu; exact PuA)); refine fin ?_) | (apply RD_W; rfl; intro bk))
 refine W_cond rfl (fun hc => ?_) (fun hc => ?_)
 ·simp only [decide_eq_true_eq, Int.ofNat_lt] at hc
  obtain ⟨hna, hca⟩ := hE.rd k _ (List.getElem?_eq_getElem hc)
  have hem := List.getElem_mem hc
  rw [drop_cons hc, erGo] at hi
  generalize z.eras[k] = e at *
  have hSl := statesOf_len a.rules e
  have hlet := statesOf_let (e := e) fun r hr => (hS.rs r hr).2
  have h64 := statesOf_64 (e := e) (fun r h => hV.i64 r h) (hZ e hem).save
  have hss := fun w' (hw : Bel w.heap.size w w') => states_spec Ar Az Al As cr cz cl cs a e w' (hA.up hw) hn
  have hZe := hZ e hem
  have hHe := hH e hem
  generalize statesOf a.rules e = S at *
  obtain ⟨R2, hR2⟩ : ∃ R2, stGo e S acc = R2 := ⟨_, rfl⟩
  rw [hR2] at hi
  simp only [DEra.enc] at hss hca
  repeat (first | (apply RL_pu; rfl; exact PuI) | (apply RD_Q; rfl; rfl; decide +kernel; rfl; rfl; exact QyI) | refine walk1 ?_ | (refine jg ?_; (try intro F); (first | (apply Stp_call (h := fun w' hw _ => hss w' hw); rfl; rintro v O' ⟨A5, c5, rfl, rfl⟩) | (refine bx ?_; intro bk) | (refine stA ?_)); first | refine ⟨_, EndsA, QFI, ?_⟩ | refine fin ?_) | (refine jn ?_; (try intro F); (first | (refine bx ?_; intro bk) | (refine stA ?_) | (apply Stp_pu; first | exact PuI | exact PuA)); first | refine ⟨_, EndsA, QFI, ?_⟩ | refine fin ?_) | (apply RD_W; rfl; intro bk))
  generalize bk = b9
  refine W_loopF [(2, .pointer (some ⟨b1, 0, none⟩)), (5, .map (some bp)), (6, .map (some ba)), (9, .pointer (some ⟨b9, 0, none⟩)), (17, .slice Ae z.eras.length ce), (18, .int .i64 z.eras.length), (19, .int .i64 k), (25, .slice A5 S.length c5), (26, .int .i64 S.length)]
   [.blk b1 [.slice Ar a.rules.length cr, .slice Az a.zones.length cz, .slice Al a.links.length cl, .slice As a.shifts.length cs] 137, .blk b9 [.int .i64 e.off, .int .i64 e.kind, .int .i64 e.save, .string e.set, .string e.format, .bool e.til.is, .int .i64 e.til.year, .int .i64 e.til.month, .int .i64 e.til.day.kind, .int .i64 e.til.day.week, .int .i64 e.til.day.day, .int .i64 e.til.at_.sec, .int .i64 e.til.at_.base] 55, .row (.slice A5 S.length c5) 88 2 S.length (S.flatMap stEnc)]
   (fun g : FwG => [(7, .int .i64 g.sz), (27, .int .i64 g.k)]) (fun g => [cmIt pkV bp g.lp, .mp ba (toM g.la)]) (fun g => g.k ≤ S.length ∧ FewI g.lp g.la g.sz g.acc g.t ∧ g.t ≤ k * 2000000 + g.k ∧ stGo e (S.drop g.k) g.acc = R2)
   (fun g => S.length - g.k) ⟨0, lp, la, sz, acc, t⟩ SFA SOA ⟨Nat.zero_le _, hI, Nat.le_trans ht (Nat.le_add_right _ _), hR2⟩ ?_
  clear hR2 hI ht lp la sz acc t
  rintro ⟨j, lp, la, sz, acc, t⟩ ⟨hj, hI, ht, hi2⟩
  dsimp only at hj hI ht hi2 ⊢
  repeat (first | refine walk ?_ | (refine jn ?_; (try intro F); (first | (refine bx ?_; intro bk) | (refine stA ?_) | (apply Stp_pu; exact PuA)); refine fin ?_) | (apply RD_W; rfl; intro bk))
  refine W_cond rfl (fun hc2 => ?_) (fun hc2 => ?_)
  ·simp only [decide_eq_true_eq, Int.ofNat_lt] at hc2
   have hg1 := flat_get stEnc.len S j _ 0 _ (List.getElem?_eq_getElem hc2) rfl
   have hgn : ∀ i v, (stEnc S[j])[i]? = some v → (S.flatMap stEnc)[j * 2 + i]? = some v := fun i v hv => flat_get stEnc.len S j _ i v (List.getElem?_eq_getElem hc2) hv
   have hxm := List.getElem_mem hc2
   rw [drop_cons hc2, stGo] at hi2
   generalize S[j] = x at *
   have hfa := fun w' (hw : Bel w.heap.size w w') => fabbr_spec e.format x.2 e.off x.1 w' (hL.up hw) hZe.fmt (hlet x hxm) hZe.off (h64 x hxm)
   have hal := abbrF_len e.format.data.toList e.off x.1 x.2.data.toList
   have hho := hHe x hxm
   unfold hoursB at hho
   simp only [Bool.and_eq_true, decide_eq_true_eq] at hho
   obtain ⟨hh1, hh2⟩ := hho
   generalize abbrF e.format.data.toList e.off x.1 x.2.data.toList = abr at *
   obtain ⟨ab, er⟩ := abr
   dsimp only at hi2 hal
   replace hfa : ∀ w', Bel w.heap.size w w' → Does Tryz.prog 78 [.string e.format, .int .i64 e.off, .agg #[.int .i64 x.1, .string x.2]] w' (fun v O => v = .tuple #[.string (bz ab), .int .i64 er] ∧ O = []) := hfa
   simp only [stEnc] at hgn hg1
   have hcp := hI.cp.get (e.off + x.1, bz ab)
   have hcq := hI.ca.get (bz ab)
   have hsz := bz_size ab
   have hlim := hI.lim
   have hst := hI.step (e.off + x.1) ab hal
   have hl2 : (mget (toM (cput (bz ab) (cget (bz ab) la + 1) (cins (bz ab) la))) (bz ab)).getD (.int .i64 0) = .int .i64 (cget (bz ab) la + 1) := (toM_get _ _).trans (by rw [cget_cput _ _ _ (cins_mem _ _)])
   by_cases hnew : cget (bz ab) la + 1 = 1
   ·rw [if_pos hnew] at hst
    have hb : decide (cget (bz ab) la + 1 = 1) = true := decide_eq_true hnew
    repeat (first | (apply RL_pu; rfl; exact PuFewB0) | (refine js ?_; (first | (refine callE hfa ?_) | (apply Stp_centry (kv := pkV) (k := (e.off + x.1, bz ab)) (l := lp); rfl; rfl; (focus repeat' constructor)) | (apply Stp_cstore (kv := pkV) (k := (e.off + x.1, bz ab)) (l := lp); rfl; rfl; rfl; (focus repeat' constructor)) | (apply Stp_mapUpdateC; rfl; rfl; rfl; exact toM_set _ _ la; (focus repeat' constructor)) | (refine bx ?_; intro bk))) | (apply RD_Q; rfl; rfl; decide +kernel; rfl; rfl; exact QyFewB0) | refine walk1 ?_ | (refine RD_G0w ?_; intro F; (refine callE hfa ?_); refine ⟨_, EndsA, SubO.right _ _, ?_⟩) | (refine RD_Lw ?_; intro F; (first | (refine callE hfa ?_) | (apply Stp_centry (kv := pkV) (k := (e.off + x.1, bz ab)) (l := lp); rfl; rfl; (focus repeat' constructor)) | (apply Stp_cstore (kv := pkV) (k := (e.off + x.1, bz ab)) (l := lp); rfl; rfl; rfl; (focus repeat' constructor)) | (apply Stp_mapUpdateC; rfl; rfl; rfl; exact toM_set _ _ la; (focus repeat' constructor)) | (refine bx ?_; intro bk) | (refine stA ?_) | (apply Stp_pu; first | exact PuFewB0 | exact PuA)); refine ⟨_, EndsA, QFFewB0, ?_⟩) | (apply RD_W; rfl; intro bk))
    exact ⟨⟨j + 1, cinc (e.off + x.1, bz ab) lp, cinc (bz ab) la, sz + (((bz ab).size : Int) + 1), _, t + 1⟩, OA, ⟨OA, by dsimp only; rw [hsz]; exact hst, OA, hi2⟩, SFA, SOA⟩
   ·rw [if_neg hnew] at hst
    have hb : decide (cget (bz ab) la + 1 = 1) = false := decide_eq_false hnew
    repeat (first | (apply RL_pu; rfl; exact PuFewB0) | (refine js ?_; (first | (refine callE hfa ?_) | (apply Stp_centry (kv := pkV) (k := (e.off + x.1, bz ab)) (l := lp); rfl; rfl; (focus repeat' constructor)) | (apply Stp_cstore (kv := pkV) (k := (e.off + x.1, bz ab)) (l := lp); rfl; rfl; rfl; (focus repeat' constructor)) | (apply Stp_mapUpdateC; rfl; rfl; rfl; exact toM_set _ _ la; (focus repeat' constructor)) | (refine bx ?_; intro bk))) | (apply RD_Q; rfl; rfl; decide +kernel; rfl; rfl; exact QyFewB0) | refine walk1 ?_ | (refine RD_G0w ?_; intro F; (refine callE hfa ?_); refine ⟨_, EndsA, SubO.right _ _, ?_⟩) | (refine RD_Lw ?_; intro F; (first | (refine callE hfa ?_) | (apply Stp_centry (kv := pkV) (k := (e.off + x.1, bz ab)) (l := lp); rfl; rfl; (focus repeat' constructor)) | (apply Stp_cstore (kv := pkV) (k := (e.off + x.1, bz ab)) (l := lp); rfl; rfl; rfl; (focus repeat' constructor)) | (apply Stp_mapUpdateC; rfl; rfl; rfl; exact toM_set _ _ la; (focus repeat' constructor)) | (refine bx ?_; intro bk) | (refine stA ?_) | (apply Stp_pu; first | exact PuFewB0 | exact PuA)); refine ⟨_, EndsA, QFFewB0, ?_⟩) | (apply RD_W; rfl; intro bk))
    exact ⟨⟨j + 1, cinc (e.off + x.1, bz ab) lp, cinc (bz ab) la, sz, _, t + 1⟩, OA, ⟨OA, hst, OA, hi2⟩, SFA, SOA⟩
  ·simp only [decide_eq_false_iff_not, Int.ofNat_lt] at hc2
   rw [List.drop_eq_nil_of_le (by omega), stGo] at hi2
   subst hi2
   repeat (first | refine walk ?_ | (refine jn ?_; (try intro F); (first | (refine bx ?_; intro bk) | (refine stA ?_) | (apply Stp_pu; exact PuA)); refine fin ?_) | (apply RD_W; rfl; intro bk))
   exact ⟨⟨k + 1, lp, la, sz, acc, t⟩, OA, ⟨OA, hI, OA, hi⟩, SFA, SOA⟩
 ·simp only [decide_eq_false_iff_not, Int.ofNat_lt] at hc
  rw [List.drop_eq_nil_of_le (by omega), erGo] at hi
  subst hi
  rw [← hI.few]
  by_cases h120 : (lp.length : Int) ≤ 120
  ·have b1 : decide ((lp.length : Int) ≤ 120) = true := decide_eq_true h120
   rw [b1]
   repeat (first | (apply RL_pu; rfl; exact PuFewB1) | (apply RD_Q; rfl; rfl; decide +kernel; rfl; rfl; exact QyFewB1) | refine walk1 ?_ | (refine jn ?_; (try intro F); (first | (refine bx ?_; intro bk) | (refine stA ?_) | (apply Stp_pu; first | exact PuFewB1 | exact PuA)); first | refine ⟨_, EndsA, QFFewB1, ?_⟩ | refine fin ?_) | (apply RD_W; rfl; intro bk))
   exact rtA
  ·have b1 : decide ((lp.length : Int) ≤ 120) = false := decide_eq_false h120
   rw [b1]
   repeat (first | refine und ?_ | (apply RL_pu; rfl; exact PuFewB1) | (apply RD_Q; rfl; rfl; decide +kernel; rfl; rfl; exact QyFewB1) | refine walk1 ?_ | (refine jn ?_; (try intro F); (first | (refine bx ?_; intro bk) | (refine stA ?_) | (apply Stp_pu; first | exact PuFewB1 | exact PuA)); first | refine ⟨_, EndsA, QFFewB1, ?_⟩ | refine fin ?_) | (apply RD_W; rfl; intro bk))
   exact rtA
end Go.Proofs.YtonjepladadmhaaGreatDoor
