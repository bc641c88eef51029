/- Contracts: slices.IndexFunc and ContainsFunc at zones; slices.Contains at ints. Contract: analemmalaw33.KeepAccepted. -/
import Derived.Test.YtbjkhnlnedfceaaGreatDoorQ47
import Derived.Test.YtbjkhnlnedfceaaGreatDoorQ37
import Derived.Test.YtbjkhnlnedfceaaGreatDoorQ24
import Derived.Test.YtbjkhnlnedfceaaGreatDoorQ66
import Derived.Test.YtbjkhnlnedfceaaGreatDoorQ36
import Derived.Test.YtbjkhnlnedfceaaGreatDoorQ69
import Derived.Test.YtbjkhnlnedfceaaGreatDoorQ38
set_option maxHeartbeats 4000000
set_option linter.unusedVariables false
set_option linter.unusedSimpArgs false
namespace Go.Proofs.YtbjkhnlnedfceaaGreatDoor
open Go Go.RowKit Go.Wk
attribute [local irreducible] W RL Does thenQ blockQ retQ Calls Pu Stp RD Qy Ay DoesIn
theorem indexZn_spec (A : Option Addr) (c : Nat) (l : List ZE) (f : FuncId) [Body Tryz.prog f] (us cs : List Value) (p : ZE → Bool) (w : World) (hA : RdSl w A c ZE.enc 2 l)
  (hf : ∀ r ∈ l, ∀ w', Bel w.heap.size w w' → Does Tryz.prog f (us ++ [.agg (ZE.enc r).toArray] ++ cs) w' (fun v O => v = .bool (p r) ∧ O = [])) :
  Does Tryz.prog 69 [.slice A l.length c, .func (.func f) us.toArray cs.toArray] w (fun v O => v = .int .i64 (findI p l 0) ∧ O = []) := by
 have hs1 := hA.le
 have hs2 := hA.cap
 unfold maxLen at hs2
 generalize hres : findI p l 0 = res
 refine Does_of_W Tryz.func69 rfl rfl rfl rfl ?_
 repeat (first | refine walk ?_)
 refine W_loopF [(0, _), (1, _), (4, _), (7, _)] _ (fun k : Nat => [(8, .int .i64 k)]) (fun _ => []) (fun k => k ≤ l.length ∧ findI p (l.drop k) k = res) (fun k => l.length - k) 0 ⟨rfl, rfl, rfl, rfl, rfl, trivial⟩ (.refl _) ⟨by omega, by simpa using hres⟩ ?_
 rintro k ⟨hk, hi⟩
 repeat (first | refine walk ?_)
 refine W_cond rfl (fun hc => ?_) (fun hc => ?_)
 ·simp only [decide_eq_true_eq, Int.ofNat_lt] at hc
  obtain ⟨hna, hca⟩ := hA.rd k _ (List.getElem?_eq_getElem hc)
  have hnb := hna
  have hcb := hca
  rw [drop_cons hc, findI] at hi
  have hrm := List.getElem_mem hc
  generalize l[k] = r at *
  repeat (first | (apply RL_pu; rfl; exact PuI) | (refine js ?_; (refine callV (fun w' hw _ => hf r hrm w' hw) ?_)) | refine walk1 ?_)
  refine W_cond rfl (fun h3 => ?_) (fun h3 => ?_)
  ·repeat (first | refine walk ?_)
   rw [if_pos h3] at hi
   exact ret_1 _ [] (.tmp rfl) .nil ⟨by rw [← hi], rfl⟩
  repeat (first | refine walk ?_)
  rw [h3] at hi
  exact ⟨k + 1, by omega, ⟨by omega, hi⟩, SFA, SOA⟩
 simp only [decide_eq_false_iff_not, Int.ofNat_lt] at hc
 repeat (first | refine walk ?_)
 exact ret_1 _ [] (.tmp rfl) .nil ⟨by rw [← hi, List.drop_eq_nil_of_le (by omega)]; rfl, rfl⟩
theorem containsZn_spec (A : Option Addr) (c : Nat) (l : List ZE) (f : FuncId) [Body Tryz.prog f] (us cs : List Value) (p : ZE → Bool) (w : World) (hA : RdSl w A c ZE.enc 2 l)
  (hf : ∀ r ∈ l, ∀ w', Bel w.heap.size w w' → Does Tryz.prog f (us ++ [.agg (ZE.enc r).toArray] ++ cs) w' (fun v O => v = .bool (p r) ∧ O = [])) :
  Does Tryz.prog 28 [.slice A l.length c, .func (.func f) us.toArray cs.toArray] w (fun v O => v = .bool (l.any p) ∧ O = []) := by
 have h := fun w' (hw : Bel w.heap.size w w') => indexZn_spec A c l f us cs p w' (hA.up hw) fun r hr w2 h2 => hf r hr w2 (hw.trans (h2.mono hw.size))
 rw [← findI_any p l 0]
 generalize findI p l 0 = k at *
 refine Does_of_W Tryz.func28 rfl rfl rfl rfl ?_
 repeat (first | (refine js ?_; (refine callE h ?_)) | refine walk ?_)
 exact rtA
theorem indexI_spec (A : Option Addr) (c : Nat) (l : List Int) (x : Int) (w : World) (hA : RdSl w A c iEnc 1 l) :
  Does Tryz.prog 68 [.slice A l.length c, .int .i64 x] w (fun v O => v = .int .i64 (findI (fun y => decide (x = y)) l 0) ∧ O = []) := by
 have hs1 := hA.le
 have hs2 := hA.cap
 unfold maxLen at hs2
 generalize hres : findI (fun y => decide (x = y)) l 0 = res
 refine Does_of_W Tryz.func68 rfl rfl rfl rfl ?_
 repeat (first | refine walk ?_)
 refine W_loopF [(0, _), (1, _), (4, _), (7, _)] _ (fun k : Nat => [(8, .int .i64 k)]) (fun _ => []) (fun k => k ≤ l.length ∧ findI (fun y => decide (x = y)) (l.drop k) k = res) (fun k => l.length - k) 0 ⟨rfl, rfl, rfl, rfl, rfl, trivial⟩ (.refl _) ⟨by omega, by simpa using hres⟩ ?_
 rintro k ⟨hk, hi⟩
 repeat (first | refine walk ?_)
 refine W_cond rfl (fun hc => ?_) (fun hc => ?_)
 ·simp only [decide_eq_true_eq, Int.ofNat_lt] at hc
  obtain ⟨hna, hca⟩ := hA.rd k _ (List.getElem?_eq_getElem hc)
  have hnb := hna
  have hcb := hca
  rw [drop_cons hc, findI] at hi
  generalize l[k] = p at *
  repeat (first | (apply RL_pu; rfl; exact PuI) | refine walk1 ?_)
  refine W_cond rfl (fun h3 => ?_) (fun h3 => ?_)
  ·repeat (first | refine walk ?_)
   rw [if_pos h3] at hi
   exact ret_1 _ [] (.tmp rfl) .nil ⟨by rw [← hi], rfl⟩
  repeat (first | refine walk ?_)
  rw [h3] at hi
  exact ⟨k + 1, by omega, ⟨by omega, hi⟩, SFA, SOA⟩
 simp only [decide_eq_false_iff_not, Int.ofNat_lt] at hc
 repeat (first | refine walk ?_)
 exact ret_1 _ [] (.tmp rfl) .nil ⟨by rw [← hi, List.drop_eq_nil_of_le (by omega)]; rfl, rfl⟩
theorem findI_int (x : Int) (l : List Int) (k : Nat) : decide (0 ≤ findI (fun y => decide (x = y)) l k) = decide (x ∈ l) := by
 rw [findI_any, Bool.eq_iff_iff]
 simp
theorem containsI_spec (A : Option Addr) (c : Nat) (l : List Int) (x : Int) (w : World) (hA : RdSl w A c iEnc 1 l) :
  Does Tryz.prog 27 [.slice A l.length c, .int .i64 x] w (fun v O => v = .bool (decide (x ∈ l)) ∧ O = []) := by
 refine Does_of_W Tryz.func27 rfl rfl rfl rfl ?_
 repeat (first | (refine js ?_; (refine callE (fun w' hw => indexI_spec A c l x w' (hA.up hw)) ?_)) | refine walk ?_)
 exact ret_1 _ [] (.tmp rfl) .nil ⟨by rw [findI_int], rfl⟩
end Go.Proofs.YtbjkhnlnedfceaaGreatDoor
set_option pp.deepTerms true
set_option pp.maxSteps 1000000
namespace Go.Proofs.YtbjkhnlnedfceaaGreatDoor
open Go Go.RowKit Go.Wk
theorem zonesD_part (s : DSource) (l : List ByteArray) (hs : s.shifts = []) : zonesD s l = partS s (fun x => memB x l) (fun x => memB x (setsOf (keptZ s l))) := by
 unfold zonesD partS keptZ
 rw [hs]
 rfl
theorem memB_in {x : ByteArray} : ∀ {l : List ByteArray}, x ∈ l → memB x l = true
 | y :: l, h => by
  rw [memB_cons]
  rcases List.mem_cons.1 h with rfl | h
  ·rw [decide_eq_true rfl]; rfl
  ·rw [memB_in h, Bool.or_true]
theorem kept_sets (s : DSource) (l : List ByteArray) : ∀ z ∈ s.zones, memB z.name l = true → ∀ e ∈ z.eras, e.kind = 2 → memB e.set (setsOf (keptZ s l)) = true := fun z hz hm e he hk =>
 memB_in (List.mem_flatMap.2 ⟨z, List.mem_filter.2 ⟨hz, hm⟩, List.mem_map.2 ⟨e, List.mem_filter.2 ⟨he, decide_eq_true hk⟩, rfl⟩⟩)
def tabK (n : Nat) (b0 b1 b2 : Bool) : Bool := ((zoneN25.take n).filter fun x => memB x (nNone :: pick3 b0 b1 b2 (zoneN25.take n))).length + 1 == (nNone :: pick3 b0 b1 b2 (zoneN25.take n)).length
theorem tabK_true : ∀ n : Fin 4, ∀ b0 b1 b2 : Bool, tabK n.val b0 b1 b2 = true := by decide +kernel
theorem kept_len (d : DDr) (bits : Int) : (zonesD (made25 d) (someD (made25 d) bits)).zones.length + 1 = (someD (made25 d) bits).length := by
 have hn := nz_le d
 have ht := tabK_true ⟨d.nz, by omega⟩ (bitOn bits 0) (bitOn bits 1) (bitOn bits 2)
 have hs : someD (made25 d) bits = nNone :: pick3 (bitOn bits 0) (bitOn bits 1) (bitOn bits 2) (zoneN25.take d.nz) := by
  rw [someD, pickZ_names, made25_names, pick3_eq _ _ hn]
 have hl : (zonesD (made25 d) (someD (made25 d) bits)).zones.length = (((made25 d).zones.map (·.name)).filter fun x => memB x (someD (made25 d) bits)).length := by
  rw [List.filter_map, List.length_map]
  rfl
 rw [hl, made25_names, hs]
 simpa [tabK] using ht
theorem kept_acc (d : DDr) (l : List ByteArray) : accD (zonesD (made25 d) l) = none := by
 rw [zonesD_part _ _ rfl]
 exact part_acc d _ _ (kept_sets _ l)
theorem kept_forms (d : DDr) (l : List ByteArray) : ∀ f ∈ formsD (made25 d), f ∈ formsD (zonesD (made25 d) l) := by
 rw [zonesD_part _ _ rfl]
 exact part_forms d _ _ (kept_sets _ l)
theorem kept_sml (d : DDr) (l : List ByteArray) : Sml (zonesD (made25 d) l) := by
 have h := made25_sml d
 have l1 : (zonesD (made25 d) l).rules.length ≤ (made25 d).rules.length := List.length_filter_le _ _
 have l2 : (zonesD (made25 d) l).zones.length ≤ (made25 d).zones.length := List.length_filter_le _ _
 have l3 : (zonesD (made25 d) l).shifts.length ≤ (made25 d).shifts.length := List.length_filter_le _ _
 have h1 := h.nr
 have h2 := h.nz
 have h3 := h.ns
 exact ⟨by omega, by omega, Nat.zero_le _, by omega, fun r hr => h.rs r (List.mem_filter.1 hr).1, fun z hz => h.zs z (List.mem_filter.1 hz).1, fun x hx => by cases hx⟩
attribute [local irreducible] W RL Does thenQ blockQ retQ Calls Pu Stp RD Qy Ay DoesIn made25
theorem PuKeepZ0 {G : Prop} (h : G := by (first | (apply Pu_loadO1; rfl; first | exact h0 | exact h1) | (apply Pu_eqlSB; rfl; rfl; exact hc1))) : G := h
theorem kept1_spec (x z : ZE) (b : Nat) (w : World) (hx : RdSl w x.A x.c DEra.enc 13 x.z.eras) (hz : RdSl w z.A z.c DEra.enc 13 z.z.eras) (h0 : w.cell? ⟨b, 0, none⟩ = some (.string z.z.name)) (h1 : w.cell? ⟨b, 1, none⟩ = some (.slice z.A z.z.eras.length z.c)) :
  Does Tryz.prog 29 [.agg (ZE.enc x).toArray, .pointer (some ⟨b, 0, none⟩)] w (fun v O => v = .bool (decide (x.z.name = z.z.name) && decide (x.z.eras = z.z.eras)) ∧ O = []) := by
 have heq := fun w' (hw : Bel w.heap.size w w') => equalE_spec x.A z.A x.c z.c x.z.eras z.z.eras w' (hx.up hw) (hz.up hw)
 obtain ⟨c1, hc1⟩ : ∃ c, decide (x.z.name = z.z.name) = c := ⟨_, rfl⟩
 rw [hc1]
 refine Does_of_W Tryz.func29 rfl rfl rfl rfl ?_
 cases c1 with
 | true =>
  repeat (first | (apply RL_pu; rfl; exact PuKeepZ0) | (refine js ?_; (first | (refine callE heq ?_) | (refine bx ?_; intro bk))) | refine walk1 ?_)
  exact rtA
 | false =>
  repeat (first | refine und ?_ | (apply RL_pu; rfl; exact PuKeepZ0) | (refine js ?_; (refine bx ?_; intro bk)) | refine walk1 ?_)
  exact rtA
theorem accT0' (Ar Az Al As : Option Addr) (cr cz cl cs : Nat) (a : DSource) (w : World) (h : AccOk w Ar Az Al As cr cz cl cs a) (hf : accD a = none) :
  Does Tryz.prog 20 [srcV Ar Az Al As cr cz cl cs a] w (fun v O => v = .tuple #[.agg #[.int .i64 0, .int .i64 0, .int .i64 0], .int .i64 0] ∧ O = []) := by
 have := accS h
 rwa [hf] at this
theorem ze_atK {Zs : List ZE} {zs : List DZone} (h : Zs.map ZE.z = zs) {j : Nat} {z : DZone} (hg : zs[j]? = some z) : ∃ q, Zs[j]? = some q ∧ q.z = z := by
 subst h
 rw [List.getElem?_map] at hg
 cases hq : Zs[j]? with
 | none => rw [hq] at hg; cases hg
 | some q =>
  rw [hq] at hg
  exact ⟨q, rfl, Option.some.inj hg⟩
theorem containsT (A : Option Addr) (c : Nat) (l : List Int) (x : Int) (w : World) (hA : RdSl w A c iEnc 1 l) (h : x ∈ l) :
  Does Tryz.prog 27 [.slice A l.length c, .int .i64 x] w (fun v O => v = .bool true ∧ O = []) := by
 have := containsI_spec A c l x w hA
 rwa [decide_eq_true h] at this
theorem conZ (A : Option Addr) (c n b : Nat) (Zs : List ZE) (q r : ZE) (w : World) (hn : Zs.length = n) (hA : RdSl w A c ZE.enc 2 Zs) (hE : ErasAt Zs w) (hq : RdSl w q.A q.c DEra.enc 13 q.z.eras) (hb : CellsAt w ((adr (some ⟨b, 0, none⟩)).add (0 * 2)) q.enc) (hr : r ∈ Zs) (e : r.z = q.z) :
  Does Tryz.prog 28 [.slice A n c, .func (.func 29) #[] #[.pointer (some ⟨b, 0, none⟩)]] w (fun v O => v = .bool true ∧ O = []) := by
 subst hn
 have := containsZn_spec A c Zs 29 [] [.pointer (some ⟨b, 0, none⟩)] (fun x => decide (x.z.name = q.z.name) && decide (x.z.eras = q.z.eras)) w hA fun x hx w2 h2 => by
  have h0 := (hb.up h2 (Nat.le_refl _)) 0 _ rfl
  have h1 := (hb.up h2 (Nat.le_refl _)) 1 _ rfl
  rw [show adr (some (⟨b, 0, none⟩ : Addr)) = ⟨b, 0, none⟩ from rfl, add_mk, add_mk] at h0 h1
  exact kept1_spec x q b w2 ((hE x hx).up h2) (hq.up h2) h0 h1
 rwa [show Zs.any (fun x => decide (x.z.name = q.z.name) && decide (x.z.eras = q.z.eras)) = true from List.any_eq_true.2 ⟨r, hr, by rw [e]; simp⟩] at this
theorem PuKeepZ1 {G : Prop} (h : G := by (apply Pu_neqB'; rfl; rfl; first | exact b1 | exact b2)) : G := h
theorem QyKeepZ1 {G : Prop} (h : G := by first | (apply Qy_y; rfl; exact PuKeepZ1) | exact QyA) : G := h
theorem QFKeepZ1 {G : Prop} (h : G := by repeat (first | exact QF.nil | (apply QF.mk; rfl; rfl; decide +kernel; exact QyKeepZ1))) : G := h
theorem PuKeepZ2 {G : Prop} (h : G := by (first | (apply Pu_indexAddrH; rfl; rfl; omega; omega; (intro w' _ hO; exact row_some (hO.of (A := .row (.slice N2 _ n2) _ _ _ _) (by repeat' constructor)) (by omega))) | (apply Pu_loadR; rfl; (focus repeat' constructor); exact hx))) : G := h
theorem QyKeepZ2 {G : Prop} (h : G := by first | (apply Qy_y; rfl; exact PuKeepZ2) | exact QyA) : G := h
theorem QFKeepZ2 {G : Prop} (h : G := by repeat (first | exact QF.nil | (apply QF.mk; rfl; rfl; decide +kernel; exact QyKeepZ2))) : G := h
theorem PuKeepZ3 {G : Prop} (h : G := by (first | (apply Pu_indexAddrH; rfl; rfl; omega; omega; (intro w' _ hO; exact row_some (hO.of (A := rowZ Z2 z2 Zs2) (by repeat' constructor)) (by omega))) | (apply Pu_loadRN; rfl; (focus repeat' constructor); exact hx1; rfl))) : G := h
theorem QyKeepZ3 {G : Prop} (h : G := by first | (apply Qy_y; rfl; exact PuKeepZ3) | exact QyA) : G := h
theorem QFKeepZ3 {G : Prop} (h : G := by repeat (first | exact QF.nil | (apply QF.mk; rfl; rfl; decide +kernel; exact QyKeepZ3))) : G := h
set_option maxHeartbeats 8000000 in
theorem keepAccepted_spec (As Al : Option Addr) (cs c : Nat) (d : DDr) (bits : Int) (w : World) (hL : LibW w) (hG : Glob w) (hS : RdSets w As cs d.sets) (hD : RdSl w Al c byEnc 1 d.L) (hr : ∀ x ∈ d.L, inR .u8 x) (hrs : ∀ l ∈ d.sets, ∀ x ∈ l, inR .u8 x) (hz : inR .u8 d.zones) (hl : inR .u8 d.links) (_hb : inR .u8 bits) :
  Does Tryz.prog 7 [dr25V As Al cs c d, .int .u8 bits] w (fun v O => v = .bool true ∧ O = []) := by
 have hwk := fun w' (_ : Bel w.heap.size w w') => works33_spec w'
 have hmk := fun w' (hw : Bel w.heap.size w w') => (made25_spec As Al cs c d w' (hS.up hw) (hD.up hw) hr hrs hz hl).monoO fun _ _ h => newSrc_of h
 have hsl : (someD (made25 d) bits).length ≤ 4 := by
  have := pickZ_len bits (made25 d).zones 0
  have h2 := made25_nz d
  have h3 := nz_le d
  rw [someD, List.length_cons]
  omega
 have hnz := (made25_sml d).nz
 have hsd := fun Ar Az Al' As' cr cz cl cs' w' hA => some_spec Ar Az Al' As' cr cz cl cs' (made25 d) bits w' hA (by omega)
 have hzp := fun Ar Az Al' As' cr cz cl cs' An cn w' hA hN => zonesP_spec Ar Az Al' As' cr cz cl cs' (made25 d) An cn (someD (made25 d) bits) w' hA hN (made25_fits d) (by omega)
 have k1 := kept_acc d (someD (made25 d) bits)
 have k2 := kept_len d bits
 have k3 := kept_forms d (someD (made25 d) bits)
 have k4 : ∀ z ∈ (zonesD (made25 d) (someD (made25 d) bits)).zones, z ∈ (made25 d).zones := fun z hz => (List.mem_filter.1 hz).1
 have k5 : (zonesD (made25 d) (someD (made25 d) bits)).links.length = 0 := rfl
 have k6 : (formsD (made25 d)).length ≤ 3 := by
  rw [made25_formsD]
  split
  ·decide
  ·split <;> decide
 have hsa := kept_sml d (someD (made25 d) bits)
 have hss := made25_sml d
 generalize zonesD (made25 d) (someD (made25 d) bits) = a at *
 generalize someD (made25 d) bits = l at *
 generalize made25 d = s at *
 obtain ⟨fa, hfa⟩ : ∃ f, formsD a = f := ⟨_, rfl⟩
 obtain ⟨fs, hfs⟩ : ∃ f, formsD s = f := ⟨_, rfl⟩
 rw [hfa, hfs] at k3
 rw [hfs] at k6
 have k7 := hsa.nz
 have b1 : (!decide ((a.links.length : Int) = 0)) = false := by rw [decide_eq_true (by omega)]; rfl
 have b2 : (!decide ((a.zones.length : Int) = (l.length : Int) - 1)) = false := by rw [decide_eq_true (by omega)]; rfl
 refine Does_of_W Tryz.func7 rfl rfl rfl rfl ?_
 repeat (first | refine walk ?_ | (refine jg ?_; (try intro F); (first | (apply Stp_call (h := fun w' hw _ => hmk w' hw); rfl; rintro v O' ⟨R1, r1, Z1, z1, L1, l1, H1, h1, Zs1, S1, rfl, hZ1, rfl⟩) | (apply Stp_call (h := fun w' _ hO => hsd R1 Z1 L1 H1 r1 z1 l1 h1 w' (src_rd hZ1 (hO.of (A := rowR R1 r1 _) (by repeat' constructor)) (hO.of (A := rowZ Z1 z1 _) (by repeat' constructor)) (hO.of (A := rowL L1 l1 _) (by repeat' constructor)) (hO.of (A := rowS H1 h1 _) (by repeat' constructor)) (hO.of (A := .fact S1 (ErasAt Zs1)) (by repeat' constructor)))); rfl; rintro v O' ⟨A2, c2, rfl, rfl⟩) | (apply Stp_call (h := fun w' _ hO => hzp R1 Z1 L1 H1 r1 z1 l1 h1 A2 c2 w' (src_rd hZ1 (hO.of (A := rowR R1 r1 _) (by repeat' constructor)) (hO.of (A := rowZ Z1 z1 _) (by repeat' constructor)) (hO.of (A := rowL L1 l1 _) (by repeat' constructor)) (hO.of (A := rowS H1 h1 _) (by repeat' constructor)) (hO.of (A := .fact S1 (ErasAt Zs1)) (by repeat' constructor))) (rowRd strEnc.len (hO.of (A := .row (.slice A2 _ c2) _ _ _ _) (by repeat' constructor)))); rfl; rintro v O' ⟨R2, r2, Z2, z2, L2, l2, H2, h2, Zs2, S2, rfl, hZ2, rfl⟩) | (refine bx ?_; intro bk) | (refine stA ?_)); refine fin ?_) | (refine jn ?_; (try intro F); (first | (refine bx ?_; intro bk) | (refine stA ?_) | (apply Stp_pu; exact PuA)); refine fin ?_) | (apply RD_W; rfl; intro bk))
 rename_i b0 b5 _ _
 generalize bk = b6
 repeat (first | (apply RL_pu; rfl; exact PuKeepZ1) | (apply RD_Q; rfl; rfl; decide +kernel; rfl; rfl; exact QyKeepZ1) | refine walk1 ?_ | (refine jg ?_; (try intro F); (first | (refine callO (fun w' hw hO => accT0' R2 Z2 L2 H2 r2 z2 l2 h2 a w' (hsa.acc (hL.up hw) (hG.up hw) (src_rd hZ2 (hO.of (A := rowR R2 r2 _) (by repeat' constructor)) (hO.of (A := rowZ Z2 z2 _) (by repeat' constructor)) (hO.of (A := rowL L2 l2 _) (by repeat' constructor)) (hO.of (A := rowS H2 h2 _) (by repeat' constructor)) (hO.of (A := .fact S2 (ErasAt Zs2)) (by repeat' constructor)))) k1) ?_) | (apply Stp_call (h := fun w' _ hO => hsd R1 Z1 L1 H1 r1 z1 l1 h1 w' (src_rd hZ1 (hO.of (A := rowR R1 r1 _) (by repeat' constructor)) (hO.of (A := rowZ Z1 z1 _) (by repeat' constructor)) (hO.of (A := rowL L1 l1 _) (by repeat' constructor)) (hO.of (A := rowS H1 h1 _) (by repeat' constructor)) (hO.of (A := .fact S1 (ErasAt Zs1)) (by repeat' constructor)))); rfl; rintro v O' ⟨A5, c5, rfl, rfl⟩) | (refine bx ?_; intro bk) | (refine stA ?_)); first | refine ⟨_, EndsA, QFKeepZ1, ?_⟩ | refine fin ?_) | (refine jn ?_; (try intro F); (first | (refine bx ?_; intro bk) | (refine stA ?_) | (apply Stp_pu; first | exact PuKeepZ1 | exact PuA)); first | refine ⟨_, EndsA, QFKeepZ1, ?_⟩ | refine fin ?_) | (apply RD_W; rfl; intro bk))
 repeat (first | refine walk ?_ | (refine jg ?_; (try intro F); (first | (apply Stp_call (h := fun w' hw hO => formsT R2 Z2 L2 H2 r2 z2 l2 h2 a fa w' (hsa.acc (hL.up hw) (hG.up hw) (src_rd hZ2 (hO.of (A := rowR R2 r2 _) (by repeat' constructor)) (hO.of (A := rowZ Z2 z2 _) (by repeat' constructor)) (hO.of (A := rowL L2 l2 _) (by repeat' constructor)) (hO.of (A := rowS H2 h2 _) (by repeat' constructor)) (hO.of (A := .fact S2 (ErasAt Zs2)) (by repeat' constructor)))) hfa); rfl; rintro v O' ⟨N1, n1, rfl, rfl⟩) | (refine bx ?_; intro bk) | (refine stA ?_)); refine fin ?_) | (refine jn ?_; (try intro F); (first | (refine bx ?_; intro bk) | (refine stA ?_) | (apply Stp_pu; exact PuA)); refine fin ?_) | (apply RD_W; rfl; intro bk))
 repeat (first | refine walk ?_ | (refine jg ?_; (try intro F); (first | (apply Stp_call (h := fun w' hw hO => formsT R1 Z1 L1 H1 r1 z1 l1 h1 s fs w' (hss.acc (hL.up hw) (hG.up hw) (src_rd hZ1 (hO.of (A := rowR R1 r1 _) (by repeat' constructor)) (hO.of (A := rowZ Z1 z1 _) (by repeat' constructor)) (hO.of (A := rowL L1 l1 _) (by repeat' constructor)) (hO.of (A := rowS H1 h1 _) (by repeat' constructor)) (hO.of (A := .fact S1 (ErasAt Zs1)) (by repeat' constructor)))) hfs); rfl; rintro v O' ⟨N2, n2, rfl, rfl⟩) | (refine bx ?_; intro bk) | (refine stA ?_)); refine fin ?_) | (refine jn ?_; (try intro F); (first | (refine bx ?_; intro bk) | (refine stA ?_) | (apply Stp_pu; exact PuA)); refine fin ?_) | (apply RD_W; rfl; intro bk))
 refine W_loopF [(5, .pointer (some ⟨b5, 0, none⟩)), (6, .pointer (some ⟨b6, 0, none⟩)), (9, .slice N1 fa.length n1), (48, .slice N2 fs.length n2), (49, .int .i64 fs.length)] [.row (.slice N1 fa.length n1) 3 1 fa.length (fa.flatMap iEnc), .row (.slice N2 fs.length n2) 3 1 fs.length (fs.flatMap iEnc), .blk b6 [.slice R2 a.rules.length r2, .slice Z2 a.zones.length z2, .slice L2 a.links.length l2, .slice H2 a.shifts.length h2] 31, rowR R2 r2 a.rules, rowZ Z2 z2 Zs2, rowL L2 l2 a.links, rowS H2 h2 a.shifts, .fact S2 (ErasAt Zs2), .blk b5 [.slice R1 s.rules.length r1, .slice Z1 s.zones.length z1, .slice L1 s.links.length l1, .slice H1 s.shifts.length h1] 31, rowR R1 r1 s.rules, rowZ Z1 z1 Zs1, rowL L1 l1 s.links, rowS H1 h1 s.shifts, .fact S1 (ErasAt Zs1)]
  (fun k : Nat => [(50, .int .i64 k)]) (fun _ => []) (fun k => k ≤ fs.length) (fun k => fs.length - k) 0 SFA SOA (Nat.zero_le _) ?_
 intro k hk
 repeat (first | refine walk ?_ | (refine jn ?_; (try intro F); (first | (refine bx ?_; intro bk) | (refine stA ?_) | (apply Stp_pu; exact PuA)); refine fin ?_) | (apply RD_W; rfl; intro bk))
 refine W_cond rfl (fun h => ?_) (fun h => ?_)
 ·have hk2 : k < fs.length := by simpa using h
  obtain ⟨f, hfg⟩ : ∃ f, fs[k]? = some f := ⟨_, List.getElem?_eq_getElem hk2⟩
  have hfm := k3 f (List.mem_of_getElem? hfg)
  have hx : (fs.flatMap iEnc)[((k : Int)).toNat * 1]? = some (.int .i64 f) := flat_get iEnc.len fs k f 0 _ hfg rfl
  repeat (first | (apply RL_pu; rfl; exact PuKeepZ2) | (apply RD_Q; rfl; rfl; decide +kernel; rfl; rfl; exact QyKeepZ2) | refine walk1 ?_ | (refine jg ?_; (try intro F); (first | (refine callO (fun w' _ hO => containsT N1 n1 fa f w' (rowRd iEnc.len (hO.of (A := .row (.slice N1 _ n1) _ _ _ _) (by repeat' constructor))) hfm) ?_) | (refine bx ?_; intro bk) | (refine stA ?_)); first | refine ⟨_, EndsA, QFKeepZ2, ?_⟩ | refine fin ?_) | (refine jn ?_; (try intro F); (first | (refine bx ?_; intro bk) | (refine stA ?_) | (apply Stp_pu; first | exact PuKeepZ2 | exact PuA)); first | refine ⟨_, EndsA, QFKeepZ2, ?_⟩ | refine fin ?_) | (apply RD_W; rfl; intro bk))
  exact ⟨k + 1, OA, OA, SFA, SOA⟩
 repeat (first | refine walk ?_ | (refine jn ?_; (try intro F); (first | (refine bx ?_; intro bk) | (refine stA ?_) | (apply Stp_pu; exact PuA)); refine fin ?_) | (apply RD_W; rfl; intro bk))
 have hl1 : Zs1.length = s.zones.length := by rw [← hZ1, List.length_map]
 refine W_loopF [(5, .pointer (some ⟨b5, 0, none⟩)), (6, .pointer (some ⟨b6, 0, none⟩)), (60, .slice Z2 a.zones.length z2), (61, .int .i64 a.zones.length)] [.row (.slice N1 fa.length n1) 3 1 fa.length (fa.flatMap iEnc), .row (.slice N2 fs.length n2) 3 1 fs.length (fs.flatMap iEnc), .blk b6 [.slice R2 a.rules.length r2, .slice Z2 a.zones.length z2, .slice L2 a.links.length l2, .slice H2 a.shifts.length h2] 31, rowR R2 r2 a.rules, rowZ Z2 z2 Zs2, rowL L2 l2 a.links, rowS H2 h2 a.shifts, .fact S2 (ErasAt Zs2), .blk b5 [.slice R1 s.rules.length r1, .slice Z1 s.zones.length z1, .slice L1 s.links.length l1, .slice H1 s.shifts.length h1] 31, rowR R1 r1 s.rules, rowZ Z1 z1 Zs1, rowL L1 l1 s.links, rowS H1 h1 s.shifts, .fact S1 (ErasAt Zs1)]
  (fun k : Nat => [(62, .int .i64 k)]) (fun _ => []) (fun k => k ≤ a.zones.length) (fun k => a.zones.length - k) 0 SFA SOA (Nat.zero_le _) ?_
 intro k hk
 repeat (first | refine walk ?_ | (refine jn ?_; (try intro F); (first | (refine bx ?_; intro bk) | (refine stA ?_) | (apply Stp_pu; exact PuA)); refine fin ?_) | (apply RD_W; rfl; intro bk))
 refine W_cond rfl (fun h => ?_) (fun h => ?_)
 ·have hk2 : k < a.zones.length := by simpa using h
  obtain ⟨z, hzg⟩ : ∃ z, a.zones[k]? = some z := ⟨_, List.getElem?_eq_getElem hk2⟩
  obtain ⟨q, hq, e⟩ := ze_atK hZ2 hzg
  have hqm : q ∈ Zs2 := List.mem_of_getElem? hq
  have hjl : k < Zs2.length := (List.getElem?_eq_some_iff.1 hq).1
  have hx1 : ∀ j v, q.enc[j]? = some v → (Zs2.flatMap ZE.enc)[((k : Int)).toNat * 2 + j]? = some v := fun j v hj => flat_get ZE.len Zs2 k q j v hq hj
  obtain ⟨j, hj⟩ := List.getElem?_of_mem (k4 z (List.mem_of_getElem? hzg))
  obtain ⟨r, hr, hre⟩ := ze_atK hZ1 hj
  have hrm : r ∈ Zs1 := List.mem_of_getElem? hr
  rw [← e] at hre
  repeat (first | (apply RL_pu; rfl; exact PuKeepZ3) | (apply RD_Q; rfl; rfl; decide +kernel; rfl; rfl; exact QyKeepZ3) | refine walk1 ?_ | (refine jg ?_; (try intro F); (first | (refine callO (fun w' _ hO => conZ Z1 z1 s.zones.length bk Zs1 q r w' hl1 (rowRd ZE.len (hO.of (A := rowZ Z1 z1 _) (by repeat' constructor))) (fact_at (S := S1) (p := ErasAt Zs1) (hO.of (by repeat' constructor))) (fact_at (S := S2) (p := ErasAt Zs2) (hO.of (by repeat' constructor)) q hqm) (((litRd (c := 1) (l := [q]) ZE.len (Nat.le_refl 1) (by decide) (hO.of (A := .blk bk _ _) (by repeat' constructor))).rd 0 q rfl).2) hrm hre) ?_) | (refine bx ?_; intro bk) | (refine stA ?_)); first | refine ⟨_, EndsA, QFKeepZ3, ?_⟩ | refine fin ?_) | (refine jn ?_; (try intro F); (first | (refine bx ?_; intro bk) | (refine stA ?_) | (apply Stp_pu; first | exact PuKeepZ3 | exact PuA)); first | refine ⟨_, EndsA, QFKeepZ3, ?_⟩ | refine fin ?_) | (apply RD_W; rfl; intro bk))
  exact ⟨k + 1, OA, OA, SFA, SOA⟩
 repeat (first | refine walk ?_ | (refine jg ?_; (try intro F); (first | (refine callE hwk ?_) | (refine bx ?_; intro bk) | (refine stA ?_)); refine fin ?_) | (refine jn ?_; (try intro F); (first | (refine bx ?_; intro bk) | (refine stA ?_) | (apply Stp_pu; exact PuA)); refine fin ?_) | (apply RD_W; rfl; intro bk))
 exact rtA
end Go.Proofs.YtbjkhnlnedfceaaGreatDoor
