/- Contract: keep.Zones. Contracts: analemmalaw13.SameSource. Contract: analemmaref33.Names. The plain law: the kept names of the program are the document's. Contracts: analemmalaw33.example. Contract: analemmalaw33.works. The plain law of analemmalaw33.KeepOptions: names of a draft's zones, those on a list; a finite table. -/
import Derived.Test.YtbjkhnlnedfceaaGreatDoorQ68
import Derived.Test.YtbjkhnlnedfceaaGreatDoorQ66
import Derived.Test.YtbjkhnlnedfceaaGreatDoorQ67
set_option maxHeartbeats 4000000
set_option linter.unusedVariables false
set_option linter.unusedSimpArgs false
namespace Go.Proofs.YtbjkhnlnedfceaaGreatDoor
open Go Go.RowKit Go.Wk
attribute [local irreducible] W RL Does thenQ blockQ retQ Calls Pu Stp RD Qy Ay DoesIn
structure MZ where
 k : Nat
 mp : List (ByteArray × Value)
theorem setsOf_snoc (zs : List DZone) (z : DZone) : setsOf (zs ++ [z]) = setsOf zs ++ eraSets z.eras := by simp [setsOf]
theorem eraSets_le (es : List DEra) : (eraSets es).length ≤ es.length := by
 simp only [eraSets, List.length_map]
 exact List.length_filter_le _ _
theorem setsOf_le (B : Nat) : ∀ zs : List DZone, (∀ z ∈ zs, z.eras.length ≤ B) → (setsOf zs).length ≤ B * zs.length
 | [], _ => by simp [setsOf]
 | z :: zs, h => by
  have ih := setsOf_le B zs fun y hy => h y (List.mem_cons_of_mem _ hy)
  have h1 := eraSets_le z.eras
  have h2 := h z List.mem_cons_self
  simp only [setsOf, List.flatMap_cons, List.length_append, List.length_cons] at ih ⊢
  rw [Nat.mul_add, Nat.mul_one]
  omega
theorem PuKeepJ0 {G : Prop} (h : G := by (first | (apply Pu_indexAddrH; rfl; rfl; omega; omega; (intro w' _ hO; exact row_some (hO.of (by repeat' constructor)) (by omega))) | (apply Pu_loadRN; rfl; (focus repeat' constructor); exact hx1; rfl))) : G := h
theorem QyKeepJ0 {G : Prop} (h : G := by first | (apply Qy_y; rfl; exact PuKeepJ0) | exact QyA) : G := h
theorem QFKeepJ0 {G : Prop} (h : G := by repeat (first | exact QF.nil | (apply QF.mk; rfl; rfl; decide +kernel; exact QyKeepJ0))) : G := h
theorem PuKeepJ1 {G : Prop} (h : G := by (first | (apply Pu_indexAddrH; rfl; rfl; omega; omega; (intro w' _ hO; exact ((rowRd DEra.len (hO.sat (eraRow q) (by repeat (first | exact hqe | apply List.mem_cons_of_mem)))).rd j er hge).1)) | (apply Pu_loadN (cs := er.enc); rfl; rfl; (intro w' _ hO; exact ((rowRd DEra.len (hO.sat (eraRow q) (by repeat (first | exact hqe | apply List.mem_cons_of_mem)))).rd j er hge).2)))) : G := h
theorem QyKeepJ1 {G : Prop} (h : G := by first | (apply Qy_y; rfl; exact PuKeepJ1) | exact QyA) : G := h
theorem QFKeepJ1 {G : Prop} (h : G := by repeat (first | exact QF.nil | (apply QF.mk; rfl; rfl; decide +kernel; exact QyKeepJ1))) : G := h
theorem PuKeepJ2 {G : Prop} (h : G := by (apply Pu_lookupC; rfl; rfl; (focus repeat' constructor); exact hcj _)) : G := h
theorem QyKeepJ2 {G : Prop} (h : G := by first | (apply Qy_y; rfl; exact PuKeepJ2) | exact QyA) : G := h
theorem QFKeepJ2 {G : Prop} (h : G := by repeat (first | exact QF.nil | (apply QF.mk; rfl; rfl; decide +kernel; exact QyKeepJ2))) : G := h
set_option maxHeartbeats 4000000 in
theorem zonesR_spec (Ar Az Al As : Option Addr) (cr cz cl cs : Nat) (a : DSource) (An : Option Addr) (cn : Nat) (names : List ByteArray) (w : World) (hA : RdSource w Ar Az Al As cr cz cl cs a) (hN : RdSl w An cn strEnc 1 names) (hn : Fits a) (hnn : names.length ≤ 1000000) :
  Does Tryz.prog 25 [srcV Ar Az Al As cr cz cl cs a, .slice An names.length cn] w (NewSrcR (zonesD a names)) := by
 refine Does_of_W Tryz.func25 rfl rfl rfl rfl ?_
 repeat (first | ((apply RL_st; rfl; apply Stp_call (h := fun w' hw _ => copyR2_spec Ar Az Al As cr cz cl cs a w' (hA.up hw) hn); rfl; rintro v O' ⟨R1, r1, Z1, z1, L1, l1, H1, h1, Zs1, rfl, hZ1, rfl⟩); refine RL_tail ?_) | refine walk ?_ | (refine jg ?_; (try intro F); (first | (apply Stp_call (h := fun w' hw _ => counted_spec An cn names w' (hN.up hw) hnn); rfl; rintro v O' ⟨bm, mp, rfl, rfl, hmp⟩) | (refine bx ?_; intro bk) | (refine stA ?_)); refine fin ?_) | (refine jn ?_; (try intro F); (first | (refine bx ?_; intro bk) | (refine stA ?_) | (apply Stp_pu; exact PuA)); refine fin ?_) | (apply RD_W; rfl; intro bk))
 rename_i b2 b4 bs b5
 generalize bk = b6
 have hzl : Zs1.length ≤ 1000000 := by rw [← List.length_map (f := ZE.z), hZ1]; exact hn.z
 generalize hK : (Zs1.filter fun q => memB q.z.name names) = K
 have hKz : K.map ZE.z = keptZ a names := by rw [← hK, filter_z Zs1 (fun z => memB z.name names), hZ1]; rfl
 have hKl : K.length ≤ 1000000 := by rw [← hK]; exact Nat.le_trans (List.length_filter_le _ _) hzl
 have hKe : ∀ q ∈ K, q.z.eras.length ≤ 1000000 := fun q hq => hn.e _ (by rw [← hZ1]; rw [← hK] at hq; exact List.mem_map.2 ⟨q, (List.mem_filter.1 hq).1, rfl⟩)
 repeat (first | ((apply RL_st; rfl; apply Stp_call (h := fun w' hw hO => chosenZ_spec Z1 z1 Zs1 63 [] [.pointer (some ⟨b5, 0, none⟩)] (fun q => memB q.z.name names) w' (rowRd ZE.len (hO.of (by repeat' constructor))) hzl (fun r w2 hw2 => fnZ1_spec r ⟨b5, 0, none⟩ names w2 ((cnt_at (hO.of (A := .blk b5 _ _) (by repeat' constructor)) (hO.of (A := .mp bm mp) (by repeat' constructor)) hmp).up hw2))); rfl; rintro v O' ⟨Z2, z2, rfl, rfl⟩); refine RL_filtT (l := [_, _, _, _, _, _, _, _, _, _, _]) (fun q => memB q.z.name names) ?_; rw [hK]) | refine walk ?_ | (refine jn ?_; (try intro F); (first | (refine bx ?_; intro bk) | (refine stA ?_) | (apply Stp_pu; exact PuA)); refine fin ?_) | (apply RD_W; rfl; intro bk))
 refine W_loopF [(2, _), (4, _), (6, _), (7, _), (21, _), (22, _)] (.row (.slice Z2 K.length z2) 43 2 K.length (K.flatMap ZE.enc) :: .blk b6 [.map (some bs)] _ :: rowR R1 r1 a.rules :: rowS H1 h1 a.shifts :: .blk b4 _ _ :: .blk b2 _ _ :: K.map eraRow) (fun g : MZ => [(23, .int .i64 g.k)]) (fun g => [.mp bs g.mp]) (fun g => g.k ≤ K.length ∧ CntB g.mp (setsOf ((K.take g.k).map ZE.z))) (fun g => K.length - g.k) ⟨0, []⟩ SFA STA ⟨by simp, fun _ => rfl⟩ ?_
 rintro ⟨k, ms⟩ ⟨hk, hcnt⟩
 dsimp only at hk hcnt ⊢
 repeat (first | refine walk ?_ | (refine jn ?_; (try intro F); (first | (refine bx ?_; intro bk) | (refine stA ?_) | (apply Stp_pu; exact PuA)); refine fin ?_) | (apply RD_W; rfl; intro bk))
 refine W_cond rfl (fun hc => ?_) (fun hc => ?_)
 ·simp only [decide_eq_true_eq, Int.ofNat_lt] at hc
  have hget : K[k]? = some K[k] := List.getElem?_eq_getElem hc
  have hqm : K[k] ∈ K := List.getElem_mem hc
  have hql := hKe _ hqm
  have hqe : eraRow K[k] ∈ K.map eraRow := List.mem_map.2 ⟨_, hqm, rfl⟩
  have htk : (K.take (k + 1)).map ZE.z = (K.take k).map ZE.z ++ [K[k].z] := by rw [← List.take_append_getElem hc, List.map_append]; rfl
  have hsl := setsOf_le 1000000 ((K.take k).map ZE.z) (fun z hz => by
   obtain ⟨q, hq, rfl⟩ := List.mem_map.1 hz
   exact hKe q (List.mem_of_mem_take hq))
  rw [List.length_map, List.length_take] at hsl
  generalize K[k] = q at *
  have hx1 : ∀ j v, q.enc[j]? = some v → (K.flatMap ZE.enc)[((k : Int)).toNat * 2 + j]? = some v := fun j v hj => flat_get ZE.len K k q j v hget hj
  repeat (first | (apply RL_pu; rfl; exact PuKeepJ0) | (apply RD_Q; rfl; rfl; decide +kernel; rfl; rfl; exact QyKeepJ0) | refine walk1 ?_ | (refine jn ?_; (try intro F); (first | (refine bx ?_; intro bk) | (refine stA ?_) | (apply Stp_pu; first | exact PuKeepJ0 | exact PuA)); first | refine ⟨_, EndsA, QFKeepJ0, ?_⟩ | refine fin ?_) | (apply RD_W; rfl; intro bk))
  generalize hL : setsOf ((K.take k).map ZE.z) = L at *
  have hLb : L.length ≤ 1000000 * k := by omega
  refine W_loopF [(2, _), (4, _), (6, _), (7, _), (21, _), (22, _), (23, _), (28, _), (29, _)] (.row (.slice Z2 K.length z2) 43 2 K.length (K.flatMap ZE.enc) :: .blk b6 [.map (some bs)] _ :: rowR R1 r1 a.rules :: rowS H1 h1 a.shifts :: .blk b4 _ _ :: .blk b2 _ _ :: K.map eraRow) (fun g : MZ => [(30, .int .i64 g.k)]) (fun g => [.mp bs g.mp]) (fun g => g.k ≤ q.z.eras.length ∧ CntB g.mp (L ++ eraSets (q.z.eras.take g.k))) (fun g => q.z.eras.length - g.k) ⟨0, ms⟩ SFA STA ⟨by simp, by simpa [eraSets] using hcnt⟩ ?_
  rintro ⟨j, mj⟩ ⟨hj, hcj⟩
  dsimp only at hj hcj ⊢
  repeat (first | refine walk ?_ | (refine jn ?_; (try intro F); (first | (refine bx ?_; intro bk) | (refine stA ?_) | (apply Stp_pu; exact PuA)); refine fin ?_) | (apply RD_W; rfl; intro bk))
  refine W_cond rfl (fun hc3 => ?_) (fun hc3 => ?_)
  ·simp only [decide_eq_true_eq, Int.ofNat_lt] at hc3
   have hge : q.z.eras[j]? = some q.z.eras[j] := List.getElem?_eq_getElem hc3
   have ht3 := eraSets_take hc3
   have hel := eraSets_le (q.z.eras.take j)
   rw [List.length_take] at hel
   generalize q.z.eras[j] = er at *
   have hb := cntB_le er.set (L ++ eraSets (q.z.eras.take j))
   rw [List.length_append] at hb
   repeat (first | (apply RL_pu; rfl; exact PuKeepJ1) | (apply RD_Q; rfl; rfl; decide +kernel; rfl; rfl; exact QyKeepJ1) | refine walk1 ?_ | (refine jn ?_; (try intro F); (first | (refine bx ?_; intro bk) | (refine stA ?_) | (apply Stp_pu; first | exact PuKeepJ1 | exact PuA)); first | refine ⟨_, EndsA, QFKeepJ1, ?_⟩ | refine fin ?_) | (apply RD_W; rfl; intro bk))
   refine W_cond rfl (fun h4 => ?_) (fun h4 => ?_)
   ·rw [h4] at ht3
    repeat (first | (apply RL_pu; rfl; exact PuKeepJ2) | (apply RD_Q; rfl; rfl; decide +kernel; rfl; rfl; exact QyKeepJ2) | refine walk1 ?_ | (refine jn ?_; (try intro F); (first | (refine bx ?_; intro bk) | (refine stA ?_) | (apply Stp_pu; first | exact PuKeepJ2 | exact PuA)); first | refine ⟨_, EndsA, QFKeepJ2, ?_⟩ | refine fin ?_) | (apply RD_W; rfl; intro bk))
    exact ⟨⟨j + 1, mset mj er.set (.int .i64 ((cntB er.set (L ++ eraSets (q.z.eras.take j)) : Int) + 1))⟩, OA, ⟨OA, by
     show CntB _ (L ++ eraSets (q.z.eras.take (j + 1)))
     rw [ht3, if_pos rfl, ← List.append_assoc]
     exact hcj.set _⟩, SFA, STA⟩
   rw [h4] at ht3
   repeat (first | refine walk ?_ | (refine jn ?_; (try intro F); (first | (refine bx ?_; intro bk) | (refine stA ?_) | (apply Stp_pu; exact PuA)); refine fin ?_) | (apply RD_W; rfl; intro bk))
   exact ⟨⟨j + 1, mj⟩, OA, ⟨OA, by
    show CntB _ (L ++ eraSets (q.z.eras.take (j + 1)))
    rw [ht3, if_neg (by simp), List.append_nil]
    exact hcj⟩, SFA, STA⟩
  simp only [decide_eq_false_iff_not, Int.ofNat_lt] at hc3
  rw [List.take_of_length_le (by omega)] at hcj
  repeat (first | refine walk ?_ | (refine jn ?_; (try intro F); (first | (refine bx ?_; intro bk) | (refine stA ?_) | (apply Stp_pu; exact PuA)); refine fin ?_) | (apply RD_W; rfl; intro bk))
  exact ⟨⟨k + 1, mj⟩, OA, ⟨OA, by
   show CntB _ (setsOf ((K.take (k + 1)).map ZE.z))
   rw [htk, setsOf_snoc, hL]
   exact hcj⟩, SFA, STA⟩
 simp only [decide_eq_false_iff_not, Int.ofNat_lt] at hc
 rw [List.take_of_length_le (by omega), hKz] at hcnt
 refine W_nil 89 2 ?_
 repeat (first | refine walk ?_ | (refine jg ?_; (try intro F); (first | (apply Stp_call (h := fun w' hw hO => chosenR_spec R1 r1 a.rules 65 [] [.pointer (some ⟨b6, 0, none⟩)] (fun q => memB q.name (setsOf (keptZ a names))) w' (rowRd DRule.len (hO.of (by repeat' constructor))) hn.r (fun r w2 hw2 => fnZ2_spec r ⟨b6, 0, none⟩ _ w2 ((cnt_at (hO.of (A := .blk b6 _ _) (by repeat' constructor)) (hO.of (A := .mp bs ms) (by repeat' constructor)) hcnt).up hw2))); rfl; rintro v O' ⟨R2, r2, rfl, rfl⟩) | (apply Stp_call (h := fun w' hw hO => chosenS_spec H1 h1 a.shifts 67 [] [.pointer (some ⟨b6, 0, none⟩)] (fun q => memB q (setsOf (keptZ a names))) w' (rowRd strEnc.len (hO.of (by repeat' constructor))) hn.s (fun r w2 hw2 => fnZ3_spec r ⟨b6, 0, none⟩ _ w2 ((cnt_at (hO.of (A := .blk b6 _ _) (by repeat' constructor)) (hO.of (A := .mp bs ms) (by repeat' constructor)) hcnt).up hw2))); rfl; rintro v O' ⟨H2, h2, rfl, rfl⟩) | (refine bx ?_; intro bk) | (refine stA ?_)); refine fin ?_) | (refine jn ?_; (try intro F); (first | (refine bx ?_; intro bk) | (refine stA ?_) | (apply Stp_pu; exact PuA)); refine fin ?_) | (apply RD_W; rfl; intro bk))
 have hl : K.length = (zonesD a names).zones.length := by rw [← List.length_map (f := ZE.z), hKz]; rfl
 exact ret_1 _ (rowR R2 r2 _ :: rowZ Z2 z2 K :: rowL none 0 [] :: rowS H2 h2 _ :: K.map eraRow) (.cellB rfl (by repeat' constructor) rfl rfl) STA ⟨R2, r2, Z2, z2, none, 0, H2, h2, K, by rw [srcV, ← hl]; rfl, hKz, rfl⟩
theorem zonesP_spec (Ar Az Al As : Option Addr) (cr cz cl cs : Nat) (a : DSource) (An : Option Addr) (cn : Nat) (names : List ByteArray) (w : World) (hA : RdSource w Ar Az Al As cr cz cl cs a) (hN : RdSl w An cn strEnc 1 names) (hn : Fits a) (hnn : names.length ≤ 1000000) :
  Does Tryz.prog 25 [srcV Ar Az Al As cr cz cl cs a, .slice An names.length cn] w (NewSrc (zonesD a names)) := (zonesR_spec Ar Az Al As cr cz cl cs a An cn names w hA hN hn hnn).monoO fun _ _ h => newSrc_of h
end Go.Proofs.YtbjkhnlnedfceaaGreatDoor
namespace Go.Proofs.YtbjkhnlnedfceaaGreatDoor
open Go Go.RowKit Go.Wk
attribute [local irreducible] W RL Does thenQ blockQ retQ Calls Pu Stp RD Qy Ay
theorem sameZone_spec (A B : Option Addr) (ca cb : Nat) (p q : DZone) (w : World) (hA : RdSl w A ca DEra.enc 13 p.eras) (hB : RdSl w B cb DEra.enc 13 q.eras) :
  Does Tryz.prog 113 [.agg #[.string p.name, .slice A p.eras.length ca], .agg #[.string q.name, .slice B q.eras.length cb]] w (fun v O => v = .bool (decide (p = q)) ∧ O = []) := by
 rw [dec_zone]
 refine Does_of_W Tryz.func113 rfl rfl rfl rfl ?_
 repeat (first | (refine js ?_; (refine bx ?_; intro bk)) | refine walk ?_)
 refine RL_split 10 rfl (fun g1 => ?_) (fun g1 => ?_)
 ·repeat (first | (refine js ?_; (first | (refine callE (fun w' hw => equalE_spec A B ca cb p.eras q.eras w' (hA.up hw) (hB.up hw)) ?_) | (refine bx ?_; intro bk))) | refine walk ?_)
  exact ret_1 _ [] (.tmp rfl) .nil ⟨by rw [g1]; rfl, rfl⟩
 repeat (first | (refine js ?_; (refine bx ?_; intro bk)) | refine walk ?_)
 exact ret_1 _ [] (.tmp rfl) .nil ⟨by rw [g1]; rfl, rfl⟩
theorem equalFunc_spec (A B : Option Addr) (ca cb : Nat) (x y : List DZone) (w : World) (hA : RdZ w A x) (hB : RdZ w B y) (hxc : x.length ≤ ca) (hc : ca ≤ maxLen) :
  Does Tryz.prog 112 [.slice A x.length ca, .slice B y.length cb, .func (.func 113) #[] #[]] w (fun v O => v = .bool (decide (x = y)) ∧ O = []) := by
 unfold maxLen at hc
 generalize hres : decide (x = y) = res
 refine Does_of_W Tryz.func112 rfl rfl rfl rfl ?_
 repeat (first | (refine js ?_; (refine bx ?_; intro bk)) | refine walk ?_)
 refine W_cond rfl (fun h1 => ?_) (fun h1 => ?_)
 ·repeat (first | (refine js ?_; (refine bx ?_; intro bk)) | refine walk ?_)
  exact ret_1 _ [] (.tmp rfl) .nil ⟨by rw [← hres, dec_len]; simp at h1; omega, rfl⟩
 have hlen : x.length = y.length := by simp at h1; omega
 clear h1
 repeat (first | (refine js ?_; (refine bx ?_; intro bk)) | refine walk ?_)
 refine W_loopF [(0, _), (1, _), (2, _), (6, _), (15, _), (16, _)] [] (fun k : Nat => [(17, .int .i64 k)]) (fun _ => []) (fun k => k ≤ x.length ∧ decide (x.drop k = y.drop k) = res) (fun k => x.length - k) 0 SFA .nil ⟨by omega, hres⟩ ?_
 rintro k ⟨hk, hi⟩
 repeat (first | (refine js ?_; (refine bx ?_; intro bk)) | refine walk ?_)
 refine W_cond rfl (fun hc => ?_) (fun hc => ?_)
 ·simp only [decide_eq_true_eq, Int.ofNat_lt] at hc
  have hcy : k < y.length := by omega
  obtain ⟨hna, cs1, ⟨Ae, ce, hE, rfl⟩, hca⟩ := hA k _ (List.getElem?_eq_getElem hc)
  obtain ⟨hnb, cs2, ⟨Be, de, hF, rfl⟩, hcb⟩ := hB k _ (List.getElem?_eq_getElem hcy)
  rw [drop_cons hc, drop_cons hcy, dec_cons] at hi
  generalize x[k] = p at *
  generalize y[k] = q at *
  repeat (first | (apply RL_pu; rfl; exact PuI) | (refine js ?_; (first | (apply Stp_callV (f := 113) (us := []) (cs := []) (vs := [.agg #[.string p.name, .slice Ae p.eras.length ce], .agg #[.string q.name, .slice Be q.eras.length de]]) (h := fun w' hw _ => sameZone_spec Ae Be ce de p q w' (hE.up hw) (hF.up hw)); rfl; rfl; rintro v O' ⟨rfl, rfl⟩) | (refine bx ?_; intro bk))) | refine walk1 ?_)
  refine W_cond rfl (fun h3 => ?_) (fun h3 => ?_)
  ·repeat (first | (refine js ?_; (refine bx ?_; intro bk)) | refine walk ?_)
   exact ret_1 _ [] (.tmp rfl) .nil ⟨by simp at h3; simp [← hi, h3], rfl⟩
  repeat (first | (refine js ?_; (refine bx ?_; intro bk)) | refine walk ?_)
  simp at h3
  exact ⟨k + 1, by omega, ⟨by omega, by rw [← hi]; simp [h3]⟩, SFA, .nil⟩
 simp only [decide_eq_false_iff_not, Int.ofNat_lt] at hc
 repeat (first | (refine js ?_; (refine bx ?_; intro bk)) | refine walk ?_)
 exact ret_1 _ [] (.tmp rfl) .nil ⟨by rw [← hi, dec_nil (by omega) (by omega)], rfl⟩
theorem dec_source2 (a b : DSource) : decide (a = b) = (decide (a.rules = b.rules) && (decide (a.zones = b.zones) && (decide (a.links = b.links) && decide (a.shifts = b.shifts)))) := by
 rcases a with ⟨_, _, _, _⟩
 rcases b with ⟨_, _, _, _⟩
 rw [Bool.eq_iff_iff]
 simp
theorem sameSource_spec (Ar Az Al As : Option Addr) (cr cz cl cs : Nat) (a : DSource) (Br Bz Bl Bs : Option Addr) (dr dz dl ds : Nat) (b : DSource) (w : World) (hA : RdSource w Ar Az Al As cr cz cl cs a) (hB : RdSource w Br Bz Bl Bs dr dz dl ds b) :
  Does Tryz.prog 74 [srcV Ar Az Al As cr cz cl cs a, srcV Br Bz Bl Bs dr dz dl ds b] w (fun v O => v = .bool (decide (a = b)) ∧ O = []) := by
 rw [dec_source2]
 refine Does_of_W Tryz.func74 rfl rfl rfl rfl ?_
 repeat (first | (refine js ?_; (first | (refine callE (fun w' hw => equalR_spec Ar Br cr dr a.rules b.rules w' (hA.r.up hw) (hB.r.up hw)) ?_) | (refine bx ?_; intro bk))) | refine walk ?_)
 refine RL_split 10 rfl (fun g1 => ?_) (fun g1 => ?_)
 ·repeat (first | (refine js ?_; (first | (refine callE (fun w' hw => equalFunc_spec Az Bz cz dz a.zones b.zones w' (hA.z.up hw) (hB.z.up hw) hA.zle hA.zcap) ?_) | (refine bx ?_; intro bk))) | refine walk ?_)
  refine RL_split 17 rfl (fun g2 => ?_) (fun g2 => ?_)
  ·repeat (first | (refine js ?_; (first | (refine callE (fun w' hw => equalL_spec Al Bl cl dl a.links b.links w' (hA.l.up hw) (hB.l.up hw)) ?_) | (refine bx ?_; intro bk))) | refine walk ?_)
   refine RL_split 24 rfl (fun g3 => ?_) (fun g3 => ?_)
   ·repeat (first | (refine js ?_; (first | (refine callE (fun w' hw => equalS_spec As Bs cs ds a.shifts b.shifts w' (hA.s.up hw) (hB.s.up hw)) ?_) | (refine bx ?_; intro bk))) | refine walk ?_)
    exact ret_1 _ [] (.tmp rfl) .nil ⟨by rw [g1, g2, g3]; rfl, rfl⟩
   repeat (first | (refine js ?_; (refine bx ?_; intro bk)) | refine walk ?_)
   exact ret_1 _ [] (.tmp rfl) .nil ⟨by rw [g1, g2, g3]; rfl, rfl⟩
  repeat (first | (refine js ?_; (refine bx ?_; intro bk)) | refine walk ?_)
  exact ret_1 _ [] (.tmp rfl) .nil ⟨by rw [g1, g2]; rfl, rfl⟩
 repeat (first | (refine js ?_; (refine bx ?_; intro bk)) | refine walk ?_)
 exact ret_1 _ [] (.tmp rfl) .nil ⟨by rw [g1]; rfl, rfl⟩
end Go.Proofs.YtbjkhnlnedfceaaGreatDoor
namespace Go.Proofs.YtbjkhnlnedfceaaGreatDoor
open Go Go.RowKit Go.Wk
attribute [local irreducible] W RL Does thenQ blockQ retQ Calls Pu Stp RD Qy Ay DoesIn
end Go.Proofs.YtbjkhnlnedfceaaGreatDoor
namespace Go.Proofs.YtbjkhnlnedfceaaGreatDoor
open Go Go.RowKit Go.Wk
attribute [local irreducible] W RL Does thenQ blockQ retQ Calls Pu Stp RD Qy Ay DoesIn
def xA : ByteArray := ⟨#[65]⟩
def xB : ByteArray := ⟨#[66]⟩
def xC : ByteArray := ⟨#[67]⟩
def xD : ByteArray := ⟨#[68]⟩
def xQ : ByteArray := ⟨#[81]⟩
def xR : ByteArray := ⟨#[82]⟩
def ruleX (n : ByteArray) (m : Int) : DRule := ⟨n, 0, 0, 0, ⟨0, 0, 0⟩, ⟨0, 0⟩, m, ByteArray.empty⟩
def untilX : DUntil := ⟨false, 0, 0, ⟨0, 0, 0⟩, ⟨0, 0⟩⟩
def eraX : DEra := ⟨0, 0, 0, ByteArray.empty, ⟨#[76, 77, 84]⟩, untilX⟩
def eraY (set : ByteArray) : DEra := ⟨0, 2, 0, set, ⟨#[71, 77, 84]⟩, untilX⟩
theorem exEras_spec (set : ByteArray) (w : World) : Does Tryz.prog 106 [.string set] w (fun v O => ∃ b, v = .slice (some ⟨b, 0, none⟩) 2 2 ∧ O = [.blk b (eraX.enc ++ (eraY set).enc) 48]) := by
 refine Does_of_W Tryz.func106 rfl rfl rfl rfl ?_
 repeat (first | (refine js ?_; (refine bx ?_; intro bk)) | refine walk ?_)
 exact ret_1 _ [.blk bk (eraX.enc ++ (eraY set).enc) 48] (.tmp rfl) SOA ⟨_, rfl, rfl⟩
def zoneX (n set : ByteArray) : DZone := ⟨n, [eraX, eraY set]⟩
def exD : DSource := ⟨[ruleX xQ 1, ruleX xR 0, ruleX xQ 0, ruleX xR 1], [zoneX xC xQ, zoneX xA xR, zoneX xB xR], [⟨xC, xD⟩], [xQ, xR]⟩
def sl (b m : Nat) : Value := .slice (some ⟨b, 0, none⟩) m m
def zcells (e1 e2 e3 : Nat) : List Value := [.string xC, sl e1 2, .string xA, sl e2 2, .string xB, sl e3 2]
def ExOut (v : Value) (O : List It) : Prop := ∃ br bz e1 e2 e3 bl bs, v = .agg #[sl br 4, sl bz 3, sl bl 1, sl bs 2] ∧ O = [.blk br (exD.rules.flatMap DRule.enc) 39, .blk bz (zcells e1 e2 e3) 43, .blk e1 (eraX.enc ++ (eraY xQ).enc) 48, .blk e2 (eraX.enc ++ (eraY xR).enc) 48, .blk e3 (eraX.enc ++ (eraY xR).enc) 48, .blk bl [.string xC, .string xD] 89, .blk bs [.string xQ, .string xR] 9]
theorem eras_rd {w : World} {b : Nat} {n set : ByteArray} (h : (It.blk b (eraX.enc ++ (eraY set).enc) 48).sat w) : RdSl w (some ⟨b, 0, none⟩) 2 DEra.enc 13 (zoneX n set).eras := litRd (l := [eraX, eraY set]) DEra.len (Nat.le_refl 2) (by decide) h
theorem exk_rd {w : World} {br bz e1 e2 e3 bl bs : Nat} (h1 : (It.blk br (exD.rules.flatMap DRule.enc) 39).sat w) (h2 : (It.blk bz (zcells e1 e2 e3) 43).sat w) (h3 : (It.blk e1 (eraX.enc ++ (eraY xQ).enc) 48).sat w) (h4 : (It.blk e2 (eraX.enc ++ (eraY xR).enc) 48).sat w) (h5 : (It.blk e3 (eraX.enc ++ (eraY xR).enc) 48).sat w) (h6 : (It.blk bl [.string xC, .string xD] 89).sat w) (h7 : (It.blk bs [.string xQ, .string xR] 9).sat w) :
  RdSource w (some ⟨br, 0, none⟩) (some ⟨bz, 0, none⟩) (some ⟨bl, 0, none⟩) (some ⟨bs, 0, none⟩) 4 3 1 2 exD :=
 ⟨litRd DRule.len (Nat.le_refl 4) (by decide) h1, Nat.le_refl 3, by decide, zones_rd (litRd (c := 3) (l := [(⟨zoneX xC xQ, some ⟨e1, 0, none⟩, 2⟩ : ZE), ⟨zoneX xA xR, some ⟨e2, 0, none⟩, 2⟩, ⟨zoneX xB xR, some ⟨e3, 0, none⟩, 2⟩]) ZE.len (Nat.le_refl 3) (by decide) h2) (fun q hq => by
  rcases List.mem_cons.1 hq with rfl | hq
  ·exact eras_rd h3
  rcases List.mem_cons.1 hq with rfl | hq
  ·exact eras_rd h4
  ·rw [List.mem_singleton.1 hq]; exact eras_rd h5), litRd (l := [(⟨xC, xD⟩ : DLink)]) DLink.len (Nat.le_refl 1) (by decide) h6, litRd (l := [xQ, xR]) strEnc.len (Nat.le_refl 2) (by decide) h7⟩
theorem example_spec (w : World) : Does Tryz.prog 70 [] w ExOut := by
 refine Does_of_W Tryz.func70 rfl rfl rfl rfl ?_
 repeat (first | (refine js ?_; (first | (apply Stp_callV (f := 106) (us := []) (cs := []) (vs := [.string xQ]) (h := fun w' hw _ => exEras_spec xQ w'); rfl; rfl; rintro v O' ⟨e1, rfl, rfl⟩) | (apply Stp_callV (f := 106) (us := []) (cs := []) (vs := [.string xR]) (h := fun w' hw _ => exEras_spec xR w'); rfl; rfl; rintro v O' ⟨e2, rfl, rfl⟩) | (refine bx ?_; intro bk))) | refine walk ?_)
 rename_i b0 br eA bz bl
 generalize e2 = e3
 generalize eA = e2
 generalize bk = bs
 exact ret_1 _ [.blk br (exD.rules.flatMap DRule.enc) 39, .blk bz (zcells e1 e2 e3) 43, .blk e1 (eraX.enc ++ (eraY xQ).enc) 48, .blk e2 (eraX.enc ++ (eraY xR).enc) 48, .blk e3 (eraX.enc ++ (eraY xR).enc) 48, .blk bl [.string xC, .string xD] 89, .blk bs [.string xQ, .string xR] 9] (.cellB rfl (by repeat' constructor) rfl rfl) SOA ⟨br, bz, e1, e2, e3, bl, bs, rfl, rfl⟩
theorem QFA {P : Program} {n : Nat} {wr : World} {ops : Array Oper} {fr : Fr} {O : List It} {V : List Qp} (h : QF P n wr ops fr O V := by repeat (first | exact QF.nil | (apply QF.mk; rfl; rfl; decide +kernel; (first | exact QyA | (apply Qy_y; rfl; (apply Pu_sliceLH (l := 1) (h := 2); rfl; rfl; rfl; decide; decide; decide; decide; rfl; rfl; rfl)))))) : QF P n wr ops fr O V := h
def o1 : DOpt := ⟨true, true, []⟩
def o2 : DOpt := ⟨true, false, [xB, xD, xB]⟩
def o3 : DOpt := ⟨false, true, []⟩
theorem nm1 : namesP exD o1 = [xA, xB, xC] := by decide +kernel
theorem nm2 : namesP exD o2 = [xB] := by decide +kernel
def wantZ : DSource := ⟨[ruleX xR 0, ruleX xR 1], [zoneX xA xR], [], [xR]⟩
def wantW : DSource := ⟨exD.rules, [zoneX xC xQ, zoneX xB xR], [], exD.shifts⟩
theorem wz : zonesD exD [xA, xD] = wantZ := by decide +kernel
theorem ww : withoutD exD [xA, xD] = wantW := by decide +kernel
theorem fitsX : Fits exD := ⟨by decide, by decide, by decide, by decide, by decide⟩
theorem lit1 {w : World} {b : Nat} {x : ByteArray} (h : (It.blk b [.string x] 9).sat w) : RdSl w (some ⟨b, 0, none⟩) 1 strEnc 1 [x] := litRd (l := [x]) strEnc.len (Nat.le_refl 1) (by decide) h
theorem lit2 {w : World} {b : Nat} {x y : ByteArray} (h : (It.blk b [.string x, .string y] 9).sat w) : RdSl w (some ⟨b, 0, none⟩) 2 strEnc 1 [x, y] := litRd (l := [x, y]) strEnc.len (Nat.le_refl 2) (by decide) h
theorem lit3 {w : World} {b : Nat} {x y z : ByteArray} (h : (It.blk b [.string x, .string y, .string z] 9).sat w) : RdSl w (some ⟨b, 0, none⟩) 3 strEnc 1 [x, y, z] := litRd (l := [x, y, z]) strEnc.len (Nat.le_refl 3) (by decide) h
theorem wantZ_rd {w : World} {bR bz bS e1 e2 e3 : Nat} (h1 : (It.blk bR ((ruleX xR 0).enc ++ (ruleX xR 1).enc) 39).sat w) (h2 : (It.blk bz (zcells e1 e2 e3) 43).sat w) (h4 : (It.blk e2 (eraX.enc ++ (eraY xR).enc) 48).sat w) (h7 : (It.blk bS [.string xR] 9).sat w) :
  RdSource w (some ⟨bR, 0, none⟩) (some ⟨bz, 2, none⟩) none (some ⟨bS, 0, none⟩) 2 2 0 1 wantZ := by
 have hz := litRd (c := 3) (l := [(⟨zoneX xC xQ, some ⟨e1, 0, none⟩, 2⟩ : ZE), ⟨zoneX xA xR, some ⟨e2, 0, none⟩, 2⟩, ⟨zoneX xB xR, some ⟨e3, 0, none⟩, 2⟩]) ZE.len (Nat.le_refl 3) (by decide) h2
 have hz2 : RdSl w (some ⟨bz, 2, none⟩) 2 ZE.enc 2 [(⟨zoneX xA xR, some ⟨e2, 0, none⟩, 2⟩ : ZE)] := ⟨show 1 ≤ 2 by decide, by decide, fun k x hx => by
  cases k with
  | zero => exact ⟨by simp, (hz.rd 1 x hx).2⟩
  | succ k => simp at hx⟩
 exact ⟨litRd (l := [ruleX xR 0, ruleX xR 1]) DRule.len (Nat.le_refl 2) (by decide) h1, by decide, by decide, zones_rd hz2 (fun q hq => by rw [List.mem_singleton.1 hq]; exact eras_rd h4), nilRd _ _ _, lit1 h7⟩
theorem wantW_rd {w : World} {br bZ bs e1 e3 : Nat} (h1 : (It.blk br (exD.rules.flatMap DRule.enc) 39).sat w) (h2 : (It.blk bZ [.string xC, sl e1 2, .string xB, sl e3 2] 43).sat w) (h3 : (It.blk e1 (eraX.enc ++ (eraY xQ).enc) 48).sat w) (h5 : (It.blk e3 (eraX.enc ++ (eraY xR).enc) 48).sat w) (h7 : (It.blk bs [.string xQ, .string xR] 9).sat w) :
  RdSource w (some ⟨br, 0, none⟩) (some ⟨bZ, 0, none⟩) none (some ⟨bs, 0, none⟩) 4 2 0 2 wantW :=
 ⟨litRd DRule.len (Nat.le_refl 4) (by decide) h1, Nat.le_refl 2, by decide, zones_rd (litRd (c := 2) (l := [(⟨zoneX xC xQ, some ⟨e1, 0, none⟩, 2⟩ : ZE), ⟨zoneX xB xR, some ⟨e3, 0, none⟩, 2⟩]) ZE.len (Nat.le_refl 2) (by decide) h2) (fun q hq => by
  rcases List.mem_cons.1 hq with rfl | hq
  ·exact eras_rd h3
  ·rw [List.mem_singleton.1 hq]; exact eras_rd h5), nilRd _ _ _, lit2 h7⟩
theorem PuKeepL0 {G : Prop} (h : G := by (apply Pu_sliceLH (A' := some ⟨bz, 2, none⟩) (m' := 1) (c' := 2) (l := 1) (h := 2); rfl; rfl; rfl; decide; decide; decide; decide; rfl; rfl; rfl)) : G := h
theorem QyKeepL0 {G : Prop} (h : G := by first | (apply Qy_y; rfl; exact PuKeepL0) | exact QyA) : G := h
theorem QFKeepL0 {G : Prop} (h : G := by repeat (first | exact QF.nil | (apply QF.mk; rfl; rfl; decide +kernel; exact QyKeepL0))) : G := h
set_option maxHeartbeats 4000000 in
theorem works33_spec (w : World) : Does Tryz.prog 31 [] w (fun v O => v = .bool true ∧ O = []) := by
 refine Does_of_W Tryz.func31 rfl rfl rfl rfl ?_
 repeat (first | refine walk ?_ | (refine jg ?_; (try intro F); (first | (apply Stp_call (h := fun w' _ _ => example_spec w'); rfl; rintro v O' ⟨br, bz, e1, e2, e3, bl, bs, rfl, rfl⟩) | (refine bx ?_; intro bk) | (refine stA ?_)); refine fin ?_) | (refine jn ?_; (try intro F); (first | (refine bx ?_; intro bk) | (refine stA ?_) | (apply Stp_pu; exact PuA)); refine fin ?_) | (apply RD_W; rfl; intro bk))
 generalize bk = b1
 have rd : ∀ w', (It.blk br (exD.rules.flatMap DRule.enc) 39).sat w' → (It.blk bz (zcells e1 e2 e3) 43).sat w' → (It.blk e1 (eraX.enc ++ (eraY xQ).enc) 48).sat w' → (It.blk e2 (eraX.enc ++ (eraY xR).enc) 48).sat w' → (It.blk e3 (eraX.enc ++ (eraY xR).enc) 48).sat w' → (It.blk bl [.string xC, .string xD] 89).sat w' → (It.blk bs [.string xQ, .string xR] 9).sat w' → RdSource w' (some ⟨br, 0, none⟩) (some ⟨bz, 0, none⟩) (some ⟨bl, 0, none⟩) (some ⟨bs, 0, none⟩) 4 3 1 2 exD := fun w' h1 h2 h3 h4 h5 h6 h7 => exk_rd h1 h2 h3 h4 h5 h6 h7
 repeat (first | refine walk ?_ | (refine jg ?_; (try intro F); (first | (apply Stp_call (h := fun w' _ hO => names_spec33 (some ⟨br, 0, none⟩) (some ⟨bz, 0, none⟩) (some ⟨bl, 0, none⟩) (some ⟨bs, 0, none⟩) 4 3 1 2 exD none 0 o1 w' (rd w' (hO.of (by repeat' constructor)) (hO.of (by repeat' constructor)) (hO.of (by repeat' constructor)) (hO.of (by repeat' constructor)) (hO.of (by repeat' constructor)) (hO.of (by repeat' constructor)) (hO.of (by repeat' constructor))) (nilRd _ _ _) (by decide) (by decide)); rfl; rintro v O' ⟨N1, n1, rfl, rfl⟩) | (refine callO (fun w' _ hO => equalS_spec N1 (some ⟨bk, 0, none⟩) n1 3 (namesP exD o1) [xA, xB, xC] w' (rowRd strEnc.len (hO.of (by repeat' constructor))) (lit3 (hO.of (by repeat' constructor)))) ?_) | (refine bx ?_; intro bk) | (refine stA ?_)); refine fin ?_) | (refine jn ?_; (try intro F); (first | (refine bx ?_; intro bk) | (refine stA ?_) | (apply Stp_pu; exact PuA)); refine fin ?_) | (apply RD_W; rfl; intro bk))
 generalize bk = b2
 refine RL_split 11 rfl (fun h => absurd h (by simp [nm1])) (fun _ => ?_)
 repeat (first | refine walk ?_ | (refine jg ?_; (try intro F); (first | (apply Stp_call (h := fun w' _ hO => names_spec33 (some ⟨br, 0, none⟩) (some ⟨bz, 0, none⟩) (some ⟨bl, 0, none⟩) (some ⟨bs, 0, none⟩) 4 3 1 2 exD (some ⟨bk, 0, none⟩) 3 o2 w' (rd w' (hO.of (by repeat' constructor)) (hO.of (by repeat' constructor)) (hO.of (by repeat' constructor)) (hO.of (by repeat' constructor)) (hO.of (by repeat' constructor)) (hO.of (by repeat' constructor)) (hO.of (by repeat' constructor))) (lit3 (hO.of (by repeat' constructor))) (by decide) (by decide)); rfl; rintro v O' ⟨N2, n2, rfl, rfl⟩) | (refine callO (fun w' _ hO => equalS_spec N2 (some ⟨bk, 0, none⟩) n2 1 (namesP exD o2) [xB] w' (rowRd strEnc.len (hO.of (by repeat' constructor))) (lit1 (hO.of (by repeat' constructor)))) ?_) | (refine bx ?_; intro bk) | (refine stA ?_)); refine fin ?_) | (refine jn ?_; (try intro F); (first | (refine bx ?_; intro bk) | (refine stA ?_) | (apply Stp_pu; exact PuA)); refine fin ?_) | (apply RD_W; rfl; intro bk))
 generalize bk = b4
 rename_i b3
 refine RL_split 20 rfl (fun h => absurd h (by simp [nm2])) (fun _ => ?_)
 repeat (first | refine walk ?_ | (refine jg ?_; (try intro F); (first | (apply Stp_call (h := fun w' _ hO => names_spec33 (some ⟨br, 0, none⟩) (some ⟨bz, 0, none⟩) (some ⟨bl, 0, none⟩) (some ⟨bs, 0, none⟩) 4 3 1 2 exD none 0 o3 w' (rd w' (hO.of (by repeat' constructor)) (hO.of (by repeat' constructor)) (hO.of (by repeat' constructor)) (hO.of (by repeat' constructor)) (hO.of (by repeat' constructor)) (hO.of (by repeat' constructor)) (hO.of (by repeat' constructor))) (nilRd _ _ _) (by decide) (by decide)); rfl; rintro v O' ⟨N3, n3, rfl, rfl⟩) | (refine bx ?_; intro bk) | (refine stA ?_)); refine fin ?_) | (refine jn ?_; (try intro F); (first | (refine bx ?_; intro bk) | (refine stA ?_) | (apply Stp_pu; exact PuA)); refine fin ?_) | (apply RD_W; rfl; intro bk))
 repeat (first | refine walk ?_ | (refine jg ?_; (try intro F); (first | (apply Stp_call (h := fun w' _ hO => zonesP_spec (some ⟨br, 0, none⟩) (some ⟨bz, 0, none⟩) (some ⟨bl, 0, none⟩) (some ⟨bs, 0, none⟩) 4 3 1 2 exD (some ⟨bk, 0, none⟩) 2 [xA, xD] w' (rd w' (hO.of (by repeat' constructor)) (hO.of (by repeat' constructor)) (hO.of (by repeat' constructor)) (hO.of (by repeat' constructor)) (hO.of (by repeat' constructor)) (hO.of (by repeat' constructor)) (hO.of (by repeat' constructor))) (lit2 (hO.of (A := .blk bk _ _) (by repeat' constructor))) fitsX (by decide)); rfl; rintro v O' ⟨R1, r1, Z1, z1, L1, l1, H1, h1, Zs1, S1, rfl, hZ1, rfl⟩) | (apply Stp_call (h := fun w' _ hO => withoutP_spec (some ⟨br, 0, none⟩) (some ⟨bz, 0, none⟩) (some ⟨bl, 0, none⟩) (some ⟨bs, 0, none⟩) 4 3 1 2 exD (some ⟨bk, 0, none⟩) 2 [xA, xD] w' (rd w' (hO.of (by repeat' constructor)) (hO.of (by repeat' constructor)) (hO.of (by repeat' constructor)) (hO.of (by repeat' constructor)) (hO.of (by repeat' constructor)) (hO.of (by repeat' constructor)) (hO.of (by repeat' constructor))) (lit2 (hO.of (A := .blk bk _ _) (by repeat' constructor))) fitsX (by decide)); rfl; rintro v O' ⟨R2, r2, Z2, z2, L2, l2, H2, h2, Zs2, S2, rfl, hZ2, rfl⟩) | (refine bx ?_; intro bk) | (refine stA ?_)); refine fin ?_) | (refine jn ?_; (try intro F); (first | (refine bx ?_; intro bk) | (refine stA ?_) | (apply Stp_pu; exact PuA)); refine fin ?_) | (apply RD_W; rfl; intro bk))
 rename_i b5 b6 b7 F1
 generalize bk = b8
 repeat (first | (apply RL_pu; rfl; exact PuKeepL0) | (apply RD_Q; rfl; rfl; decide +kernel; rfl; rfl; exact QyKeepL0) | refine walk1 ?_ | (refine jn ?_; (try intro F); (first | (refine bx ?_; intro bk) | (refine stA ?_) | (apply Stp_pu; first | exact PuKeepL0 | exact PuA)); first | refine ⟨_, EndsA, QFKeepL0, ?_⟩ | refine fin ?_) | (apply RD_W; rfl; intro bk))
 rename_i bS
 generalize bk = bR
 repeat (first | refine walk ?_ | (refine jg ?_; (try intro F); (first | (refine callO (fun w' _ hO => sameSource_spec R1 Z1 L1 H1 r1 z1 l1 h1 (zonesD exD [xA, xD]) (some ⟨bR, 0, none⟩) (some ⟨bz, 2, none⟩) none (some ⟨bS, 0, none⟩) 2 2 0 1 wantZ w' (src_rd hZ1 (hO.of (by repeat' constructor)) (hO.of (by repeat' constructor)) (hO.of (by repeat' constructor)) (hO.of (by repeat' constructor)) (hO.of (A := .fact S1 (ErasAt Zs1)) (by repeat' constructor))) (wantZ_rd (hO.of (A := .blk bR _ _) (by repeat' constructor)) (hO.of (A := .blk bz (zcells e1 e2 e3) _) (by repeat' constructor)) (hO.of (by repeat' constructor)) (hO.of (A := .blk bS _ _) (by repeat' constructor)))) ?_) | (refine bx ?_; intro bk) | (refine stA ?_)); refine fin ?_) | (refine jn ?_; (try intro F); (first | (refine bx ?_; intro bk) | (refine stA ?_) | (apply Stp_pu; exact PuA)); refine fin ?_) | (apply RD_W; rfl; intro bk))
 refine RD_split 49 rfl (fun _ => ?_) (fun h => absurd h (by simp [wz]))
 generalize bk = bZ
 repeat (first | refine walk ?_ | (refine jg ?_; (try intro F); (first | (refine callO (fun w' _ hO => sameSource_spec R2 Z2 L2 H2 r2 z2 l2 h2 (withoutD exD [xA, xD]) (some ⟨br, 0, none⟩) (some ⟨bZ, 0, none⟩) none (some ⟨bs, 0, none⟩) 4 2 0 2 wantW w' (src_rd hZ2 (hO.of (by repeat' constructor)) (hO.of (by repeat' constructor)) (hO.of (by repeat' constructor)) (hO.of (by repeat' constructor)) (hO.of (A := .fact S2 (ErasAt Zs2)) (by repeat' constructor))) (wantW_rd (hO.of (by repeat' constructor)) (hO.of (A := .blk bZ _ _) (by repeat' constructor)) (hO.of (by repeat' constructor)) (hO.of (by repeat' constructor)) (hO.of (A := .blk bs _ _) (by repeat' constructor)))) ?_) | (refine bx ?_; intro bk) | (refine stA ?_)); refine fin ?_) | (refine jn ?_; (try intro F); (first | (refine bx ?_; intro bk) | (refine stA ?_) | (apply Stp_pu; exact PuA)); refine fin ?_) | (apply RD_W; rfl; intro bk))
 exact ret_1 _ [] (.tmp rfl) .nil ⟨congrArg Value.bool (by simp [ww]), rfl⟩
end Go.Proofs.YtbjkhnlnedfceaaGreatDoor
namespace Go.Proofs.YtbjkhnlnedfceaaGreatDoor
open Go Go.RowKit Go.Wk
theorem zones25_names (L : List Int) (made : Nat) : ∀ i, i ≤ 3 → (zones25 L made i).1.map (·.name) = zoneN25.take i
 | 0, _ => by simp [zones25]
 | i + 1, h => by
  have hi : i < zoneN25.length := by simp only [zoneN25, List.length_cons, List.length_nil]; omega
  rw [zones25, List.map_append, zones25_names L made i (by omega), ← List.take_append_getElem hi]
  simp [zone25, List.getD_eq_getElem?_getD, List.getElem?_eq_getElem hi]
theorem nz_le (d : DDr) : d.nz ≤ 3 := by unfold DDr.nz; omega
theorem nl_le (d : DDr) : d.nl ≤ 3 := by unfold DDr.nl; omega
theorem made25_names (d : DDr) : (made25 d).zones.map (·.name) = zoneN25.take d.nz := zones25_names d.L d.made d.nz (nz_le d)
theorem made25_nz (d : DDr) : (made25 d).zones.length = d.nz := (zones25_rng d.L d.made d.nz).1
theorem links25_names (L : List Int) (zs : List DZone) (n : Int) : ∀ i, i ≤ 3 → (links25 L zs n i).1.map (·.name) = linkN25.take i
 | 0, _ => by simp [links25]
 | i + 1, h => by
  have hi : i < linkN25.length := by simp only [linkN25, List.length_cons, List.length_nil]; omega
  rw [links25, List.map_append, links25_names L zs n i (by omega), ← List.take_append_getElem hi]
  simp [link25, List.getD_eq_getElem?_getD, List.getElem?_eq_getElem hi]
theorem made25_links (d : DDr) : (made25 d).links.map (·.name) = linkN25.take (if d.nz = 0 then 0 else d.nl) := by
 unfold made25
 dsimp only
 split
 ·rfl
 ·exact links25_names _ _ _ _ (nl_le d)
theorem made25_eras (d : DDr) : ∀ z ∈ (made25 d).zones, z.eras.length ≤ 4 := by
 have : ∀ i, ∀ z ∈ (zones25 d.L d.made i).1, z.eras.length ≤ 4 := by
  intro i
  induction i with
  | zero => intro z hz; simp [zones25] at hz
  | succ i ih =>
   intro z hz
   rw [zones25] at hz
   rcases List.mem_append.1 hz with hz | hz
   ·exact ih z hz
   ·rw [List.mem_singleton.1 hz, (zone25_rng _ _ _ _).2.2]
    exact (cnt25_rng _ _).2
 exact this d.nz
theorem made25_fits (d : DDr) : Fits (made25 d) := by
 have h1 := rules25_len d.sets d.made
 have h2 : d.made ≤ 2 := Nat.min_le_right _ _
 have h3 := made25_nz d
 have h4 := nz_le d
 have h5 : (made25 d).links.length ≤ 3 := by
  have := congrArg List.length (made25_links d)
  rw [List.length_map, List.length_take] at this
  have h6 := nl_le d
  split at this <;> omega
 refine ⟨?_, by omega, by omega, Nat.zero_le _, fun z hz => by have := made25_eras d z hz; omega⟩
 show (rules25 d.sets d.made).length ≤ 1000000
 omega
def pickB (f : Nat → Bool) : Nat → List ByteArray → List ByteArray
 | _, [] => []
 | i, x :: l => (if f i then [x] else []) ++ pickB f (i + 1) l
theorem pickZ_names (bits : Int) : ∀ (zs : List DZone) (i : Nat), pickZ bits i zs = pickB (bitOn bits) i (zs.map (·.name))
 | [], _ => rfl
 | z :: zs, i => by rw [pickZ, List.map_cons, pickB, pickZ_names bits zs (i + 1)]
def pick3 (b0 b1 b2 : Bool) (NS : List ByteArray) : List ByteArray := pickB (fun i => if i = 0 then b0 else if i = 1 then b1 else b2) 0 NS
theorem pick3_eq (f : Nat → Bool) (n : Nat) (h : n ≤ 3) : pickB f 0 (zoneN25.take n) = pick3 (f 0) (f 1) (f 2) (zoneN25.take n) := by
 obtain rfl | rfl | rfl | rfl : n = 0 ∨ n = 1 ∨ n = 2 ∨ n = 3 := by omega
 all_goals rfl
end Go.Proofs.YtbjkhnlnedfceaaGreatDoor
