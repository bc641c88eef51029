/- Parts of the proof. -/
import Derived.Shelf.Sort.Plain
import Derived.Test.YtpcpmndldgejiaaGreatDoorV28
import Derived.Test.YtpcpmndldgejiaaGreatDoorV12
import Derived.Test.YtpcpmndldgejiaaGreatDoorV09
import Derived.Test.YtpcpmndldgejiaaGreatDoorV08
import Derived.Test.YtpcpmndldgejiaaGreatDoorV04
import Derived.LaidHandle
import Derived.LaidLaws
import Derived.LaidSub
import Derived.Stop.Joined
import Derived.LaidMore
import Derived.OpenShut
import Derived.ChangeArms
import Derived.Handed
set_option maxHeartbeats 4000000
set_option linter.unusedVariables false
set_option linter.unusedSimpArgs false
namespace Go.Proofs.YtpcpmndldgejiaaGreatDoor
open Go Go.RowKit Go.Wk
def lstB (l : List ByteArray) : List (List UInt8) := l.map fun x => x.data.toList
theorem encStr_of (x : ByteArray) : encStr x.data.toList = .string x := by
 unfold encStr
 congr 1
theorem strFlat (l : List ByteArray) : l.flatMap Zau = l.map Value.string := by
 induction l with
 | nil => rfl
 | cons x l ih => rw [List.flatMap_cons, ih]; rfl
theorem sortT_perm (l : List ByteArray) : ∃ s : List ByteArray, s.Perm l ∧ lstB s = (lstB l).mergeSort fun x y => decide (x ≤ y) := by
 refine ⟨((lstB l).mergeSort fun x y => decide (x ≤ y)).map fun t => ⟨t.toArray⟩, ?_, ?_⟩
 ·have h := (List.mergeSort_perm (lstB l) fun x y => decide (x ≤ y)).map fun t => (⟨t.toArray⟩ : ByteArray)
  have e : (lstB l).map (fun t => (⟨t.toArray⟩ : ByteArray)) = l := by
   unfold lstB
   rw [List.map_map]
   exact (List.map_congr_left fun x _ => rfl).trans (List.map_id l)
  rwa [e] at h
 ·unfold lstB
  rw [List.map_map]
  exact (List.map_congr_left fun x _ => rfl).trans (List.map_id _)
theorem sortT_spec (A : Option Addr) (c : Nat) (l : List ByteArray) (wr : World) (R : List It) (hl0 : 0 < l.length) (hn : l.length ≤ 1000000000) :
  Zam Tryz.prog 96 [.slice A l.length c] wr (rowS A c l :: R) (fun _ O => ∃ s, s.Perm l ∧ O = rowS A c s :: R) := by
 intro w hB hH
 have hsat := hH.sat _ List.mem_cons_self
 obtain ⟨hxl, ⟨hv, _⟩ | ⟨b, cap, cur, hval, hb0, hg, hmc, hcm, hsz, hcur⟩⟩ := id hsat
 ·injection hv with h1 h2 h3
  omega
 injection hval with hA h2 h3
 subst hA h3
 have hbw : b < w.heap.size := (Array.getElem?_eq_some_iff.1 hg).1
 have hin := hH.inb _ List.mem_cons_self b (by simp [It.S, rowS, Value.ownBlock])
 have hcl : l.length ≤ cur.size := by
  have := congrArg List.length hcur
  rw [strFlat, List.length_take, List.length_map, Array.length_toList] at this
  omega
 have hget : ∀ j, j < l.length → cur[j]? = (l.map Value.string)[j]? := fun j hj => by
  rw [← strFlat, ← hcur, List.getElem?_take, if_pos (by omega)]
  simp
 have hHold : Go.Sort.Holds encStr w b 0 (lstB l).toArray := fun j hj => by
  have hj' : j < l.length := by simpa [lstB] using hj
  refine ⟨?_, by simp [World.frozen?, hg]⟩
  rw [Nat.zero_add, show w.cell? ⟨b, j, none⟩ = cur[j]? from by simp [World.cell?, hg], hget j hj', List.getElem?_map, List.getElem?_eq_getElem hj', getElem!_pos _ j (by simpa using hj)]
  simp [lstB, encStr_of]
 have h := Any.slices_Sort_string strLay b 0 c (lstB l) w hHold hbw (by simp [lstB]; omega)
 obtain ⟨s, hs1, hs2⟩ := sortT_perm l
 have hlen := hs1.length_eq
 refine Calls.mono (by rw [show (lstB l).length = l.length from by simp [lstB]] at h; exact h) ?_
 rintro e w' ⟨rfl, n, os, rfl⟩
 rw [← hs2]
 have hsh : (Go.Sort.grow (Go.Sort.putRow encStr (Go.Sort.ahead w n) b 0 (lstB s).toArray) os).heap = (w.heap.modify b (Go.Sort.onCells (Go.Sort.putCells encStr 0 (lstB s).toArray))) ++ os := rfl
 have hold : ∀ i, i < w.heap.size → i ≠ b → (Go.Sort.grow (Go.Sort.putRow encStr (Go.Sort.ahead w n) b 0 (lstB s).toArray) os).heap[i]? = w.heap[i]? := fun i hi hne => by
  rw [hsh, Array.getElem?_append_left (by simpa using hi), Array.getElem?_modify, if_neg (fun e => hne e.symm)]
 have hnew : (Go.Sort.grow (Go.Sort.putRow encStr (Go.Sort.ahead w n) b 0 (lstB s).toArray) os).heap[b]? = some (.cells (Go.Sort.putCells encStr 0 (lstB s).toArray cur) 9 (0, 0)) := by
  rw [hsh, Array.getElem?_append_left (by simpa using hbw), Array.getElem?_modify, if_pos rfl, hg]
  rfl
 have hsize : w.heap.size ≤ (Go.Sort.grow (Go.Sort.putRow encStr (Go.Sort.ahead w n) b 0 (lstB s).toArray) os).heap.size := by rw [hsh]; simp
 have hbel : Bel wr.heap.size wr (Go.Sort.grow (Go.Sort.putRow encStr (Go.Sort.ahead w n) b 0 (lstB s).toArray) os) :=
  hB.trans ⟨⟨rfl, rfl, rfl, hsize, fun i hi => hold i (by have := hB.size; omega) (by omega)⟩⟩
 refine ⟨_, rowS (some ⟨b, 0, none⟩) c s :: R, rfl, hbel, ?_, s, hs1, rfl⟩
 refine hH.upd (A := rowS (some ⟨b, 0, none⟩) c l) .here hB.size hsize (fun i hi hS => hold i hi (fun e => hS (by rw [e]; simp [It.S, rowS, Value.ownBlock]))) ?_ (fun i hi => .inl (by simpa [It.S, rowS, Value.ownBlock] using hi))
 refine ⟨by rw [strFlat, List.length_map]; omega, .inr ⟨b, c, _, by rw [hlen], Nat.zero_le _, hnew, by omega, hcm, ?_, ?_⟩⟩
 ·simp only [Go.Sort.putCells, Array.size_mapIdx]
  exact hsz
 ·rw [strFlat]
  apply List.ext_getElem?
  intro j
  rw [List.getElem?_take]
  have hls : (lstB s).length = s.length := by simp [lstB]
  by_cases hj : j < s.length
  ·rw [if_pos (by omega)]
   have hjc : j < cur.size := by omega
   simp only [Array.getElem?_toList, Go.Sort.putCells, Array.getElem?_mapIdx, Array.getElem?_eq_getElem hjc, Option.map_some, Nat.zero_le, true_and, Nat.zero_add, List.size_toArray, if_pos (show j < (lstB s).length by omega), Nat.sub_zero]
   rw [List.getElem?_map, List.getElem?_eq_getElem hj, getElem!_pos _ j (by simpa using (show j < (lstB s).length by omega))]
   simp [lstB, encStr_of]
  ·rw [if_neg (by omega), List.getElem?_eq_none (by simp; omega)]
def ZdA (a : Zaf) (ns : List ByteArray) : Prop := ns.Nodup ∧ ∀ x, x ∈ ns ↔ x ∈ a.zones.map ZaN.name ∨ x ∈ a.links.map ZaC.name
theorem keys_ok2 {a : Zaf} {m1 m2 l d : List (ByteArray × Value)} {s : List ByteArray} (h1 : IxM m1 fun x => Zaw x a.zones 0) (h2 : IxM m2 fun x => Zaz x a.links 0) (hd1 : Nd m1) (hl : l.Perm m2) (hd : d.Perm (Zdp m1 l)) (hs : s.Perm (d.map Prod.fst)) : ZdA a s := by
 have hn : (d.map Prod.fst).Nodup := (hd.map Prod.fst).nodup_iff.2 (msets_nd l hd1)
 refine ⟨hs.nodup_iff.2 hn, fun x => ?_⟩
 have e2 : x ∈ d.map Prod.fst ↔ x ∈ (Zdp m1 l).map Prod.fst := (hd.map Prod.fst).mem_iff
 have e3 : x ∈ l.map Prod.fst ↔ x ∈ m2.map Prod.fst := (hl.map Prod.fst).mem_iff
 have e4 := msets_get x l m1
 rw [mget_mem', h1 x, Option.isSome_map, firstZ_mem'] at e4
 have e5 := mget_mem' x m2
 rw [h2 x, Option.isSome_map, firstL_mem'] at e5
 rw [hs.mem_iff, e2, e4, e3, e5]
attribute [local irreducible] W RL Does Zat Zak retQ Calls Pu Stp RD Qy Ay Zam RLI WI
theorem sorted2_spec (bx b : Nat) (m : List (ByteArray × Value)) (h0 : 0 < m.length) (hm : m.length ≤ 1000000) (wr : World) :
  Zam Tryz.prog 53 [.func (.func 97) #[] #[.pointer (some ⟨bx, 0, none⟩)]] wr [.blk bx [.map (some b)] 133, .mp b m]
   (fun v O => ∃ (A : Option Addr) (c : Nat) (d : List (ByteArray × Value)) (s : List ByteArray), d.Perm m ∧ s.Perm (d.map Prod.fst) ∧ v = .slice A s.length c ∧ O = [rowS A c s]) := by
 refine ZaY Tryz.func53 rfl rfl rfl rfl ?_
 repeat (first | (refine js ?_; (first | (apply Zbt (h := collect_spec bx b m (by omega) wr); rfl; exact SOA; rintro v O' ⟨A, c, d, h1, rfl, h3, h4, h5, rfl⟩) | (apply Zbt (h := sortT_spec A c (d.map Prod.fst) wr [] (by rw [List.length_map, h1.length_eq]; exact h0) (by rw [List.length_map, h1.length_eq]; omega)); rfl; exact SOA; rintro v O' ⟨s, hs, rfl⟩))) | refine walk ?_)
 exact ret_1 _ [rowS A c s] (.tmp rfl) SOA ⟨A, c, d, s, h1, hs, by rw [hs.length_eq], rfl⟩
theorem linkNames2_spec (Ar Az Al As : Option Addr) (cr cz cl cs : Nat) (a : Zaf) (w : World) (hA : Zao w Ar Az Al As cr cz cl cs a) (h1 : 1 ≤ a.zones.length) (hn : a.zones.length + a.links.length ≤ 100000) :
  Does Tryz.prog 22 [srcV Ar Az Al As cr cz cl cs a] w (fun v O => ∃ (A : Option Addr) (c : Nat) (ns : List ByteArray), (ZdA a ns ∧ ns.length ≤ a.zones.length + a.links.length) ∧ v = .slice A ns.length c ∧ O = [rowS A c ns]) := by
 have hpos : ∀ (m1 m2 l : List (ByteArray × Value)), IxM m1 (fun x => Zaw x a.zones 0) → 0 < (Zdp m1 l).length := fun m1 m2 l i1 => by
  obtain ⟨z, hz⟩ : ∃ z, a.zones[0]? = some z := ⟨_, List.getElem?_eq_getElem (by omega)⟩
  have e4 := (msets_get z.name l m1).2 (.inl (by
   rw [i1 z.name, Option.isSome_map, firstZ_mem']
   exact List.mem_map_of_mem (List.mem_of_getElem? hz)))
  cases hm : Zdp m1 l with
  | nil => rw [hm] at e4; cases e4
  | cons x q => simp
 refine Zab Tryz.func22 rfl rfl rfl rfl ?_
 repeat (first | (refine js ?_; (first | (apply Zah (h := fun w' hw _ => lzones_spec Ar Az Al As cr cz cl cs a w' (hA.up hw) (by omega)); rfl; rintro v O' ⟨b1, m1, rfl, rfl, i1, d1, n1⟩) | (apply Zah (h := fun w' hw _ => ZdU Ar Az Al As cr cz cl cs a w' (hA.up hw) (by omega)); rfl; rintro v O' ⟨b2, m2, rfl, rfl, i2, d2, n2⟩) | (apply Zbt (h := mcopy_spec b1 b2 m1 m2 w); rfl; exact SOA; rintro v O' ⟨rfl, l, hl, rfl⟩) | (apply Zah (h := fun w' _ _ => keys_spec b1 w'); rfl; rintro v O' ⟨bx, rfl, rfl⟩) | (apply Zbt (h := sorted2_spec bx b1 (Zdp m1 l) (hpos m1 m2 l i1) (by have := msets_len l m1; have := hl.length_eq; omega) w); rfl; exact SOA; rintro v O' ⟨A, c, d, s, hd, hs, rfl, rfl⟩) | (refine bx ?_; intro bk))) | refine walk ?_)
 exact ret_1 _ [rowS A c s] (.tmp rfl) SOA ⟨A, c, s, ⟨keys_ok2 i1 i2 d1 hl hd hs, by have q1 := msets_len l m1; have q2 := hl.length_eq; have q3 := hd.length_eq; have q4 := hs.length_eq; rw [List.length_map] at q4; omega⟩, rfl, rfl⟩
end Go.Proofs.YtpcpmndldgejiaaGreatDoor
namespace Go.Proofs.YtpcpmndldgejiaaGreatDoor
open Go Go.RowKit Go.Wk
theorem atV_spec (x : SV) (name : ByteArray) (t : Int) (l : Zdl) (w : World) (h : x.Rd w) (hL : LibW w) (hG : Glob w) (hM : MeG w) (hsm : Sml x.s) (hn : x.s.zones.length + x.s.links.length ≤ 1000000) (m : MnOk x.s) (ht : tOk t = true) {i : Nat} {z : ZaN} (hz : zoneD x.s name = (((i : Nat) : Int), 0)) (hi : x.s.zones[i]? = some z) (hl : locAt x.s.rules z.eras t = l) :
  Does Tryz.prog 18 [.agg x.cells.toArray, .string name, .int .i64 t] w (fun v O => v = .tuple #[.agg l.enc.toArray, .int .i64 0] ∧ O = []) := by
 have := mAt x.Ar x.Az x.Al x.As x.cr x.cz x.cl x.cs x.s name t w (hsm.acc hL hG h.r) hM hn m ht hz hi
 rw [hl] at this
 rw [SV.cells, h.e1, h.e2, h.e3, h.e4]
 exact this
theorem accV_spec (x : SV) (w : World) (h : x.Rd w) (hL : LibW w) (hG : Glob w) (hsm : Sml x.s) (ha : accD x.s = none) :
  Does Tryz.prog 21 [.agg x.cells.toArray] w (fun v O => v = .tuple #[.agg #[.int .i64 0, .int .i64 0, .int .i64 0], .int .i64 0] ∧ O = []) := by
 have hO := hsm.acc hL hG h.r
 have := acc_spec x.Ar x.Az x.Al x.As x.cr x.cz x.cl x.cs x.s w hL hG h.r hO.S hO.V hO.Z
 rw [ha] at this
 rw [SV.cells, h.e1, h.e2, h.e3, h.e4]
 exact this
theorem lnW_spec (x : SV) (w : World) (h : x.Rd w) (h1 : 1 ≤ x.s.zones.length) (hn : x.s.zones.length + x.s.links.length ≤ 100000) :
  Does Tryz.prog 22 [.agg x.cells.toArray] w (fun v O => ∃ (A : Option Addr) (c : Nat) (ns : List ByteArray), (ZdA x.s ns ∧ ns.length ≤ x.s.zones.length + x.s.links.length) ∧ v = .slice A ns.length c ∧ O = [rowS A c ns]) := by
 have := linkNames2_spec x.Ar x.Az x.Al x.As x.cr x.cz x.cl x.cs x.s w h.r h1 hn
 rw [SV.cells, h.e1, h.e2, h.e3, h.e4]
 exact this
attribute [local irreducible] W RL Does Zat Zak retQ Calls Pu Stp RD Qy Ay Zam
theorem PuMgM0 {G : Prop} (h : G := by (first | (apply Pu_neEB (i := (⟨0, 0, 0⟩ : Zax)) (j := ⟨0, 0, 0⟩) (enc := Zax.enc); rfl; rfl; exact e4) | (apply ZaM; rfl; rfl; first | exact e3 | exact e5))) : G := h
theorem PuMgM1 {G : Prop} (h : G := by (first | (apply ZeK; rfl; rfl; exact hmx) | (apply ZaM; rfl; rfl; exact e6))) : G := h
theorem PuMgM2 {G : Prop} (h : G := by (first | (apply ZaM; rfl; rfl; first | exact e3 | exact e5) | (apply Pu_minK; rfl; rfl; exact ht1) | (apply ZeK; rfl; rfl; exact ht2))) : G := h
theorem PuMgM3 {G : Prop} (h : G := by (first | (apply Pu_indexAddr; rfl; rfl; omega; omega; simp) | (apply Zd7 (cs := x.cells); rfl; rfl; (intro w' _ hO; exact ((litRd (c := 2) (l := [(⟨R, Z, L, H, kr, kz, kl, kh, a.rules.length, ZA.length, a.links.length, ([] : List ByteArray).length, a⟩ : SV), ⟨R2, Z2, L2, H2, kr2, kz2, kl2, kh2, b.rules.length, ZB.length, b.links.length, b.shifts.length, b⟩]) (enc := SV.cells) (t := 34) SV.len (Nat.le_refl 2) (by decide) (hO.of (A := .blk bX _ _) (by repeat' constructor))).rd i x hx).2)))) : G := h
theorem PuMgM4 {G : Prop} (h : G := by (first | (apply Pu_remE; rfl; rfl; omega; omega) | (apply ZaB; rfl; rfl; omega; omega; (intro w' _ hO; exact ZbE (hO.of (A := rowS An cn ns) (by repeat' constructor)) (by omega))) | (apply ZbR; rfl; (focus repeat' constructor); exact hx1) | (apply ZaM; rfl; rfl; first | exact e3 | exact e5) | (apply Pu_neEB (i := (⟨l1, l2, l3⟩ : Zdl)) (j := ⟨l1, l2, l3⟩) (enc := Zdl.enc); rfl; rfl; exact n0))) : G := h
theorem PuMgM5 {G : Prop} (h : G := by (apply Pu_add; rfl; rfl; (dsimp only at k7 k8; constructor <;> omega))) : G := h
theorem QyMgM5 {G : Prop} (h : G := by first | (apply Qy_y; rfl; exact PuMgM5) | exact QyA) : G := h
theorem QFMgM5 {G : Prop} (h : G := by repeat (first | exact QF.nil | (apply QF.mk; rfl; rfl; decide +kernel; exact QyMgM5))) : G := h
set_option maxHeartbeats 8000000 in
set_option maxRecDepth 20000 in
theorem mergeMeanings_spec (As Az Al : Option Addr) (cs cz cl : Nat) (d : DD23) (Bs Bz Bl : Option Addr) (ds dz dl : Nat) (f : DD23) (common : Bool) (which t : Int) (w : World) (hLb : LibW w) (hG : Glob w) (hM : MeG w) (hS : RdLL w As cs Zdc 1 d.sets) (hZ : RdLL w Az cz E23.enc 8 d.zones) (hL : RdSl w Al cl Zdc 1 d.links) (hrs : ∀ l ∈ d.sets, ∀ x ∈ l, inR .u8 x) (hrz : ∀ l ∈ d.zones, ∀ x ∈ l, x.ok) (hrl : ∀ x ∈ d.links, inR .u8 x)
  (gS : RdLL w Bs ds Zdc 1 f.sets) (gZ : RdLL w Bz dz E23.enc 8 f.zones) (gL : RdSl w Bl dl Zdc 1 f.links) (grs : ∀ l ∈ f.sets, ∀ x ∈ l, inR .u8 x) (grz : ∀ l ∈ f.zones, ∀ x ∈ l, x.ok) (grl : ∀ x ∈ f.links, inR .u8 x) (hwh : inR .u8 which) :
  Does Tryz.prog 7 [d23V As Az Al cs cz cl d, d23V Bs Bz Bl ds dz dl f, .bool common, .int .u8 which, .int .i64 t] w (fun v O => v = .bool true ∧ O = []) := by
 refine Zab Tryz.func7 rfl rfl rfl rfl ?_
 repeat (first | refine walk ?_ | (refine jn ?_; (try intro F); (first | (refine bx ?_; intro bk) | (refine stA ?_) | (apply Zae; exact PuA)); refine fin ?_) | (apply RD_W; rfl; intro bk))
 rename_i b3
 generalize bk = b4
 refine Zb1 (fun fr' O' => ∃ (X : Option Addr) (cx : Nat), (RdLL w X cx Zdc 1 (ZcA d f common).sets ∧ (∀ l ∈ (ZcA d f common).sets, ∀ x ∈ l, inR .u8 x)) ∧ Sub [(2, .bool common), (3, .int .u8 which), (4, .int .i64 t), (5, .pointer (some ⟨b3, 0, none⟩)), (6, .pointer (some ⟨b4, 0, none⟩))] fr' ∧ SubO [.blk b3 [.slice As d.sets.length cs, .slice Az d.zones.length cz, .slice Al d.links.length cl] 26, .blk b4 [.slice X (ZcA d f common).sets.length cx, .slice Bz f.zones.length dz, .slice Bl f.links.length dl] 26] O') ?_ ?_
 ·refine Zag rfl (fun h => ?_) (fun h => ?_)
  ·rw [show ZcA d f common = { f with sets := d.sets } from if_pos h]
   repeat (first | refine walk ?_ | (refine jn ?_; (try intro F); (first | (refine bx ?_; intro bk) | (refine stA ?_) | (apply Zae; exact PuA)); refine fin ?_) | (apply RD_W; rfl; intro bk))
   exact ⟨rfl, As, cs, ⟨hS, hrs⟩, SFA, SOA⟩
  ·rw [show ZcA d f common = f from if_neg (by rw [h]; decide)]
   repeat (first | refine walk ?_ | (refine jn ?_; (try intro F); (first | (refine bx ?_; intro bk) | (refine stA ?_) | (apply Zae; exact PuA)); refine fin ?_) | (apply RD_W; rfl; intro bk))
   exact ⟨rfl, Bs, ds, ⟨gS, grs⟩, SFA, SOA⟩
 rintro fr' O' ⟨X, cx, ⟨xS, xrs⟩, hf, hO⟩
 apply thenQ_n
 refine ZbV hf hO ?_
 clear hf hO fr' O'
 have hz2 : f.zones = (ZcA d f common).zones := by rw [ZcA]; split <;> rfl
 have hl2 : f.links = (ZcA d f common).links := by rw [ZcA]; split <;> rfl
 have hchk := sec_chk d f common
 have hsb := sec_shifts d f common
 have hsmb := sec_small d f common
 rw [hz2] at gZ grz ⊢
 rw [hl2] at gL grl ⊢
 have hsrcA := made23_src d
 have hsrcB := sec_src d f common
 have hsmA := made23_sml d
 have hsmB := sec_sml d f common
 have hrul : common = true → (ZaD (Zan d) (secD d f common)).rules.length = max (Zan d).rules.length (secD d f common).rules.length := fun h => by rw [h]; exact mg_rules d f
 have hfit := fits23 d
 have hsho := short23 (ZcA d f common)
 have hfit2 := fits23 (ZcA d f common)
 have hsha : (Zan d).shifts = [] := rfl
 have hshf : (Zan (ZcA d f common)).shifts = [] := rfl
 have hsec : secD d f common = renD (Zan (ZcA d f common)) xX (!common) := rfl
 obtain ⟨s1, s2, s3, s4⟩ := small23 d
 generalize ZcA d f common = f2 at *
 generalize secD d f common = b at *
 obtain ⟨s5, s6, s7, s8⟩ := hsmb
 repeat (first | refine walk ?_ | (refine jg ?_; (try intro F); (first | (apply Zah (h := fun w' hw _ => made23N_spec As Az Al cs cz cl d w' (hS.up hw) (hZ.up hw) (hL.up hw) hrs hrz hrl); rfl; rintro v O' ⟨R, kr, Z, kz, L, kl, H, kh, ZA, SA, rfl, hZA, rfl⟩) | (apply Zah (h := fun w' hw _ => made23N_spec X Bz Bl cx dz dl f2 w' (xS.up hw) (gZ.up hw) (gL.up hw) xrs grz grl); rfl; rintro v O' ⟨R0, kr0, Z0, kz0, L0, kl0, H0, kh0, ZF, SF, rfl, hZF, rfl⟩) | (refine bx ?_; intro bk) | (refine stA ?_)); refine fin ?_) | (refine jn ?_; (try intro F); (first | (refine bx ?_; intro bk) | (refine stA ?_) | (apply Zae; exact PuA)); refine fin ?_) | (apply RD_W; rfl; intro bk))
 generalize Zan d = a at *
 generalize Zan f2 = F at *
 generalize bk = bA
 repeat (first | refine walk ?_ | (refine jg ?_; (try intro F); (first | (apply Zah (h := fun w' _ hO => renV_spec ⟨R0, Z0, L0, H0, kr0, kz0, kl0, kh0, F.rules.length, ZF.length, F.links.length, ([] : List ByteArray).length, F⟩ (!common) w' (rdV hZF hshf (hO.of (A := rowR R0 kr0 F.rules) (by repeat' constructor)) (hO.of (A := rowZ Z0 kz0 ZF) (by repeat' constructor)) (hO.of (A := rowL L0 kl0 F.links) (by repeat' constructor)) (hO.of (A := rowS H0 kh0 []) (by repeat' constructor)) (ZaQ (hO.of (A := .fact SF (ZaH ZF)) (by repeat' constructor)))) hfit2 hsho); rfl; (rw [← hsec]; rintro v O' ⟨R2, kr2, Z2, kz2, L2, kl2, H2, kh2, ZB, SB, rfl, hZB, rfl⟩)) | (refine bx ?_; intro bk) | (refine stA ?_)); refine fin ?_) | (refine jn ?_; (try intro F); (first | (refine bx ?_; intro bk) | (refine stA ?_) | (apply Zae; exact PuA)); refine fin ?_) | (apply RD_W; rfl; intro bk))
 generalize bk = bB
 clear hsec hshf hfit2 hsho hZF
 have hfb : Fits b := ⟨by omega, by omega, by omega, by rw [hsb]; simp, fun z hz => by have := s8 z hz; omega⟩
 repeat (first | refine walk ?_ | (refine jg ?_; (try intro F); (first | (apply Zah (h := fun w' _ hO => mergeV_spec ⟨R, Z, L, H, kr, kz, kl, kh, a.rules.length, ZA.length, a.links.length, ([] : List ByteArray).length, a⟩ ⟨R2, Z2, L2, H2, kr2, kz2, kl2, kh2, b.rules.length, ZB.length, b.links.length, b.shifts.length, b⟩ a b rfl rfl w' (rdV hZA hsha (hO.of (A := rowR R kr a.rules) (by repeat' constructor)) (hO.of (A := rowZ Z kz ZA) (by repeat' constructor)) (hO.of (A := rowL L kl a.links) (by repeat' constructor)) (hO.of (A := rowS H kh []) (by repeat' constructor)) (ZaQ (hO.of (A := .fact SA (ZaH ZA)) (by repeat' constructor)))) (rdV hZB rfl (hO.of (A := rowR R2 kr2 b.rules) (by repeat' constructor)) (hO.of (A := rowZ Z2 kz2 ZB) (by repeat' constructor)) (hO.of (A := rowL L2 kl2 b.links) (by repeat' constructor)) (hO.of (A := rowS H2 kh2 b.shifts) (by repeat' constructor)) (ZaQ (hO.of (A := .fact SB (ZaH ZB)) (by repeat' constructor)))) hfit hfb hchk); rfl; rintro v O' ⟨v1, rfl, R3, kr3, Z3, kz3, L3, kl3, H3, kh3, ZS, SS, rfl, hZS, rfl⟩) | (refine bx ?_; intro bk) | (refine stA ?_)); refine fin ?_) | (refine jn ?_; (try intro F); (first | (refine bx ?_; intro bk) | (refine stA ?_) | (apply Zae; exact PuA)); refine fin ?_) | (apply RD_W; rfl; intro bk))
 generalize bk = bP
 rename_i bS
 have hmrgL := fun x (hx : x = a ∨ x = b) {y} (hy : y ∈ nms x) => mg_name hsrcA hsrcB hchk (by omega) (by omega) (by omega) hx hy
 have hloc := fun x (hx : x = a ∨ x = b) {z} (hz : z ∈ x.zones) t => mg_loc hsrcA hsrcB hchk hx hz t
 have hcnt := fun {na nb ns} (h1 : ZdA a na) (h2 : ZdA b nb) (h3 : ZdA (ZaD a b) ns) => mg_count hsrcA hsrcB hchk h1 h2 h3
 have hsmS := mg_sml hsmA hsmB hsha hsb (by omega) (by omega) (by omega)
 have hsrcS := mg_src hsrcA hsrcB hchk (by omega) (by omega) (by omega)
 have hzlS : (ZaD a b).zones.length = a.zones.length + b.zones.length := by rw [ZaO hsha hsb, List.length_append]
 have hllS : (ZaD a b).links.length = a.links.length + b.links.length := by rw [ZaO hsha hsb, List.length_append]
 have hmnA := hsrcA.mn
 have hmnB := hsrcB.mn
 have hmnS := hsrcS.mn
 have hacS := hsrcS.acc
 have hnzA := hsrcA.nz
 have hnzB := hsrcB.nz
 generalize ZaD a b = s at *
 have hlA : ZA.length = a.zones.length := by rw [← hZA, List.length_map]
 have hlB : ZB.length = b.zones.length := by rw [← hZB, List.length_map]
 have hlS : ZS.length = s.zones.length := by rw [← hZS, List.length_map]
 have e3 : (!decide ((0 : Int) = 0)) = false := rfl
 have e4 : (!decide ((⟨0, 0, 0⟩ : Zax) = ⟨0, 0, 0⟩)) = false := by rw [decide_eq_true rfl]; rfl
 have e5 : (!decide ((ZS.length : Int) = (ZA.length : Int) + (ZB.length : Int))) = false := by rw [decide_eq_true (by omega)]; rfl
 have hmx : (if (a.rules.length : Int) < (b.rules.length : Int) then (b.rules.length : Int) else (a.rules.length : Int)) = max (a.rules.length : Int) (b.rules.length : Int) := by omega
 obtain ⟨t1, ht1⟩ : ∃ t1, (if (36028797018963968 : Int) < t then 36028797018963968 else t) = t1 := ⟨_, rfl⟩
 obtain ⟨t2, ht2⟩ : ∃ t2, (if (-36028797018963968 : Int) < t1 then t1 else -36028797018963968) = t2 := ⟨_, rfl⟩
 have ht1b : t1 ≤ 36028797018963968 := by rw [← ht1]; split <;> omega
 have htk : tOk t2 = true := tOk_iff.2 (by rw [← ht2]; split <;> omega)
 rw [inR_u8] at hwh
 repeat (first | (apply RL_pu; rfl; exact PuMgM0) | (apply RD_Q; rfl; rfl; decide +kernel; rfl; rfl; exact QyMgM0) | refine walk1 ?_ | (refine jn ?_; (try intro F); (first | (refine bx ?_; intro bk) | (refine stA ?_) | (apply Zae; first | exact PuMgM0 | exact PuA)); first | refine ⟨_, EndsA, QFMgM0, ?_⟩ | refine fin ?_) | (apply RD_W; rfl; intro bk))
 refine RL_post (fun fr' O' => Sub [(79, .bool false), (4, .int .i64 t), (3, .int .u8 which), (11, .pointer (some ⟨bA, 0, none⟩)), (12, .pointer (some ⟨bB, 0, none⟩)), (13, .pointer (some ⟨bS, 0, none⟩))] fr' ∧ SubO [.blk bA [.slice R a.rules.length kr, .slice Z ZA.length kz, .slice L a.links.length kl, .slice H ([] : List ByteArray).length kh] 34, .blk bB [.slice R2 b.rules.length kr2, .slice Z2 ZB.length kz2, .slice L2 b.links.length kl2, .slice H2 b.shifts.length kh2] 34, .blk bS [.slice R3 s.rules.length kr3, .slice Z3 ZS.length kz3, .slice L3 s.links.length kl3, .slice H3 s.shifts.length kh3] 34, rowR R kr a.rules, rowZ Z kz ZA, rowL L kl a.links, rowS H kh [], .fact SA (ZaH ZA), rowR R2 kr2 b.rules, rowZ Z2 kz2 ZB, rowL L2 kl2 b.links, rowS H2 kh2 b.shifts, .fact SB (ZaH ZB), rowR R3 kr3 s.rules, rowZ Z3 kz3 ZS, rowL L3 kl3 s.links, rowS H3 kh3 s.shifts, .fact SS (ZaH ZS)] O') ?_ ?_
 ·cases common with
  | true =>
   have e6 : (!decide ((s.rules.length : Int) = max (a.rules.length : Int) (b.rules.length : Int))) = false := by rw [decide_eq_true (by have := hrul rfl; omega)]; rfl
   repeat (first | (apply RL_pu; rfl; exact PuMgM1) | (apply RD_Q; rfl; rfl; decide +kernel; rfl; rfl; exact QyMgM1) | refine walk1 ?_ | (refine jn ?_; (try intro F); (first | (refine bx ?_; intro bk) | (refine stA ?_) | (apply Zae; first | exact PuMgM1 | exact PuA)); first | refine ⟨_, EndsA, QFMgM1, ?_⟩ | refine fin ?_) | (apply RD_W; rfl; intro bk))
   exact ⟨SFA, SOA⟩
  | false =>
   repeat (first | refine walk ?_ | (refine jn ?_; (try intro F); (first | (refine bx ?_; intro bk) | (refine stA ?_) | (apply Zae; exact PuA)); refine fin ?_) | (apply RD_W; rfl; intro bk))
   exact ⟨SFA, SOA⟩
 rintro fr' O' ⟨hf, hO⟩
 apply thenQ_n
 refine ZbV hf hO ?_
 clear hf hO fr' O'
 repeat (first | (apply RL_pu; rfl; exact PuMgM2) | (apply RD_Q; rfl; rfl; decide +kernel; rfl; rfl; exact QyMgM2) | refine walk1 ?_ | (refine jg ?_; (try intro F); (first | (refine ZaW (fun w' hw hO => accV_spec ⟨R3, Z3, L3, H3, kr3, kz3, kl3, kh3, s.rules.length, ZS.length, s.links.length, s.shifts.length, s⟩ w' (rdV hZS rfl (hO.of (A := rowR R3 kr3 s.rules) (by repeat' constructor)) (hO.of (A := rowZ Z3 kz3 ZS) (by repeat' constructor)) (hO.of (A := rowL L3 kl3 s.links) (by repeat' constructor)) (hO.of (A := rowS H3 kh3 s.shifts) (by repeat' constructor)) (ZaQ (hO.of (A := .fact SS (ZaH ZS)) (by repeat' constructor)))) (hLb.up hw) (hG.up hw) hsmS hacS) ?_) | (refine bx ?_; intro bk) | (refine stA ?_)); first | refine ⟨_, EndsA, QFMgM2, ?_⟩ | refine fin ?_) | (refine jn ?_; (try intro F); (first | (refine bx ?_; intro bk) | (refine stA ?_) | (apply Zae; first | exact PuMgM2 | exact PuA)); first | refine ⟨_, EndsA, QFMgM2, ?_⟩ | refine fin ?_) | (apply RD_W; rfl; intro bk))
 generalize bk = bX
 refine Zal [(4, .int .i64 t2), (3, .int .u8 which), (11, .pointer (some ⟨bA, 0, none⟩)), (12, .pointer (some ⟨bB, 0, none⟩)), (13, .pointer (some ⟨bS, 0, none⟩)), (92, .slice (some ⟨bX, 0, none⟩) 2 2), (93, .int .i64 2)] [.blk bA [.slice R a.rules.length kr, .slice Z ZA.length kz, .slice L a.links.length kl, .slice H ([] : List ByteArray).length kh] 34, .blk bB [.slice R2 b.rules.length kr2, .slice Z2 ZB.length kz2, .slice L2 b.links.length kl2, .slice H2 b.shifts.length kh2] 34, .blk bS [.slice R3 s.rules.length kr3, .slice Z3 ZS.length kz3, .slice L3 s.links.length kl3, .slice H3 s.shifts.length kh3] 34, .blk bX [.slice R a.rules.length kr, .slice Z ZA.length kz, .slice L a.links.length kl, .slice H ([] : List ByteArray).length kh, .slice R2 b.rules.length kr2, .slice Z2 ZB.length kz2, .slice L2 b.links.length kl2, .slice H2 b.shifts.length kh2] 34, rowR R kr a.rules, rowZ Z kz ZA, rowL L kl a.links, rowS H kh [], .fact SA (ZaH ZA), rowR R2 kr2 b.rules, rowZ Z2 kz2 ZB, rowL L2 kl2 b.links, rowS H2 kh2 b.shifts, .fact SB (ZaH ZB), rowR R3 kr3 s.rules, rowZ Z3 kz3 ZS, rowL L3 kl3 s.links, rowS H3 kh3 s.shifts, .fact SS (ZaH ZS)] (fun g : Nat => [(94, .int .i64 g)]) (fun _ => []) (fun g => g ≤ 2) (fun g => 2 - g) 0 SFA SOA (by simp) ?_
 intro i hi
 repeat (first | refine walk ?_ | (refine jn ?_; (try intro F); (first | (refine bx ?_; intro bk) | (refine stA ?_) | (apply Zae; exact PuA)); refine fin ?_) | (apply RD_W; rfl; intro bk))
 refine Zag rfl (fun h => ?_) (fun h => ?_)
 ·have hi2 : i < 2 := by
   have := of_decide_eq_true h
   omega
  obtain ⟨x, hx, hxr, hxs, hxsm, hxmn, hxn, hxz⟩ : ∃ x : SV, [(⟨R, Z, L, H, kr, kz, kl, kh, a.rules.length, ZA.length, a.links.length, ([] : List ByteArray).length, a⟩ : SV), ⟨R2, Z2, L2, H2, kr2, kz2, kl2, kh2, b.rules.length, ZB.length, b.links.length, b.shifts.length, b⟩][i]? = some x ∧
    (∀ w', (rowR R kr a.rules).sat w' → (rowZ Z kz ZA).sat w' → (rowL L kl a.links).sat w' → (rowS H kh []).sat w' → ZaH ZA w' → (rowR R2 kr2 b.rules).sat w' → (rowZ Z2 kz2 ZB).sat w' → (rowL L2 kl2 b.links).sat w' → (rowS H2 kh2 b.shifts).sat w' → ZaH ZB w' → x.Rd w') ∧ (x.s = a ∨ x.s = b) ∧ Sml x.s ∧ MnOk x.s ∧ x.s.zones.length + x.s.links.length ≤ 12 ∧ 1 ≤ x.s.zones.length := by
   rcases (show i = 0 ∨ i = 1 by omega) with rfl | rfl
   ·exact ⟨_, rfl, fun w' h1 h2 h3 h4 h5 _ _ _ _ _ => rdV hZA hsha h1 h2 h3 h4 h5, .inl rfl, hsmA, hmnA, by show a.zones.length + a.links.length ≤ 12; omega, hnzA.1⟩
   ·exact ⟨_, rfl, fun w' _ _ _ _ _ h1 h2 h3 h4 h5 => rdV hZB rfl h1 h2 h3 h4 h5, .inr rfl, hsmB, hmnB, by show b.zones.length + b.links.length ≤ 12; omega, hnzB.1⟩
  repeat (first | (apply RL_pu; rfl; exact PuMgM3) | (apply RD_Q; rfl; rfl; decide +kernel; rfl; rfl; exact QyMgM3) | refine walk1 ?_ | (refine jg ?_; (try intro F); (first | (apply Zah (h := fun w' hw hO => lnW_spec x w' (hxr w' (hO.of (A := rowR R kr a.rules) (by repeat' constructor)) (hO.of (A := rowZ Z kz ZA) (by repeat' constructor)) (hO.of (A := rowL L kl a.links) (by repeat' constructor)) (hO.of (A := rowS H kh []) (by repeat' constructor)) (ZaQ (hO.of (A := .fact SA (ZaH ZA)) (by repeat' constructor))) (hO.of (A := rowR R2 kr2 b.rules) (by repeat' constructor)) (hO.of (A := rowZ Z2 kz2 ZB) (by repeat' constructor)) (hO.of (A := rowL L2 kl2 b.links) (by repeat' constructor)) (hO.of (A := rowS H2 kh2 b.shifts) (by repeat' constructor)) (ZaQ (hO.of (A := .fact SB (ZaH ZB)) (by repeat' constructor)))) hxz (by omega)); rfl; rintro v O' ⟨An, cn, ns, ⟨hns, knl⟩, rfl, rfl⟩) | (refine bx ?_; intro bk) | (refine stA ?_)); first | refine ⟨_, EndsA, QFMgM3, ?_⟩ | refine fin ?_) | (refine jn ?_; (try intro F); (first | (refine bx ?_; intro bk) | (refine stA ?_) | (apply Zae; first | exact PuMgM3 | exact PuA)); first | refine ⟨_, EndsA, QFMgM3, ?_⟩ | refine fin ?_) | (apply RD_W; rfl; intro bk))
  have hnl : 0 < ns.length := by
   obtain ⟨z, hz⟩ : ∃ z, x.s.zones[0]? = some z := ⟨_, List.getElem?_eq_getElem (by omega)⟩
   exact List.length_pos_of_mem ((hns.2 z.name).2 (.inl (List.mem_map.2 ⟨z, List.mem_of_getElem? hz, rfl⟩)))
  rw [show decide ((ns.length : Int) = 0) = false from decide_eq_false (by omega)]
  obtain ⟨m, hpm, hm2⟩ : ∃ m : Nat, (m : Int) = which % (ns.length : Int) ∧ m < ns.length := by
   have q1 := Int.emod_nonneg which (b := (ns.length : Int)) (by omega)
   have q2 := Int.emod_lt_of_pos which (b := (ns.length : Int)) (by omega)
   exact ⟨(which % (ns.length : Int)).toNat, by omega, by omega⟩
  obtain ⟨nm, hnm⟩ : ∃ nm, ns[m]? = some nm := ⟨_, List.getElem?_eq_getElem hm2⟩
  have hx1 : (ns.flatMap Zau)[(which % (ns.length : Int)).toNat * 1]? = some (.string nm) := by rw [← hpm]; exact ZaG Zau.len ns m _ 0 _ hnm rfl
  have q1 : 0 ≤ which % (ns.length : Int) ∧ which % (ns.length : Int) < (ns.length : Int) := by omega
  obtain ⟨zi, zj, z, hzi, hiz, hzj, hjz⟩ := hmrgL x.s hxs (y := nm) (nms_iff.2 ((hns.2 nm).1 (List.mem_of_getElem? hnm)))
  obtain ⟨l, hlx⟩ : ∃ l, locAt x.s.rules z.eras t2 = l := ⟨_, rfl⟩
  have hls := (hloc x.s hxs (List.mem_of_getElem? hiz) t2).trans hlx
  obtain ⟨l1, l2, l3⟩ := l
  have n0 : (!decide ((⟨l1, l2, l3⟩ : Zdl) = ⟨l1, l2, l3⟩)) = false := by rw [decide_eq_true rfl]; rfl
  repeat (first | (apply RL_pu; rfl; exact PuMgM4) | (apply RD_Q; rfl; rfl; decide +kernel; rfl; rfl; exact QyMgM4) | refine walk1 ?_ | (refine jg ?_; (try intro F); (first | (refine ZaW (fun w' hw hO => atV_spec x nm t2 ⟨l1, l2, l3⟩ w' (hxr w' (hO.of (A := rowR R kr a.rules) (by repeat' constructor)) (hO.of (A := rowZ Z kz ZA) (by repeat' constructor)) (hO.of (A := rowL L kl a.links) (by repeat' constructor)) (hO.of (A := rowS H kh []) (by repeat' constructor)) (ZaQ (hO.of (A := .fact SA (ZaH ZA)) (by repeat' constructor))) (hO.of (A := rowR R2 kr2 b.rules) (by repeat' constructor)) (hO.of (A := rowZ Z2 kz2 ZB) (by repeat' constructor)) (hO.of (A := rowL L2 kl2 b.links) (by repeat' constructor)) (hO.of (A := rowS H2 kh2 b.shifts) (by repeat' constructor)) (ZaQ (hO.of (A := .fact SB (ZaH ZB)) (by repeat' constructor)))) (hLb.up hw) (hG.up hw) (hM.up hw) hxsm (by omega) hxmn htk hzi hiz hlx) ?_) | (refine ZaW (fun w' hw hO => atV_spec ⟨R3, Z3, L3, H3, kr3, kz3, kl3, kh3, s.rules.length, ZS.length, s.links.length, s.shifts.length, s⟩ nm t2 ⟨l1, l2, l3⟩ w' (rdV hZS rfl (hO.of (A := rowR R3 kr3 s.rules) (by repeat' constructor)) (hO.of (A := rowZ Z3 kz3 ZS) (by repeat' constructor)) (hO.of (A := rowL L3 kl3 s.links) (by repeat' constructor)) (hO.of (A := rowS H3 kh3 s.shifts) (by repeat' constructor)) (ZaQ (hO.of (A := .fact SS (ZaH ZS)) (by repeat' constructor)))) (hLb.up hw) (hG.up hw) (hM.up hw) hsmS (by show s.zones.length + s.links.length ≤ 1000000; omega) hmnS htk hzj hjz hls) ?_) | (refine bx ?_; intro bk) | (refine stA ?_)); first | refine ⟨_, EndsA, QFMgM4, ?_⟩ | refine fin ?_) | (refine jn ?_; (try intro F); (first | (refine bx ?_; intro bk) | (refine stA ?_) | (apply Zae; first | exact PuMgM4 | exact PuA)); first | refine ⟨_, EndsA, QFMgM4, ?_⟩ | refine fin ?_) | (apply RD_W; rfl; intro bk))
  exact ⟨i + 1, by omega, by omega, SFA, SOA⟩
 ·have hi2 : i = 2 := by
   have := of_decide_eq_false h
   omega
  repeat (first | (apply RL_pu; rfl; exact PuMgM5) | (apply RD_Q; rfl; rfl; decide +kernel; rfl; rfl; exact QyMgM5) | refine walk1 ?_ | (refine jg ?_; (try intro F); (first | (apply Zah (h := fun w' hw hO => lnW_spec ⟨R3, Z3, L3, H3, kr3, kz3, kl3, kh3, s.rules.length, ZS.length, s.links.length, s.shifts.length, s⟩ w' (rdV hZS rfl (hO.of (A := rowR R3 kr3 s.rules) (by repeat' constructor)) (hO.of (A := rowZ Z3 kz3 ZS) (by repeat' constructor)) (hO.of (A := rowL L3 kl3 s.links) (by repeat' constructor)) (hO.of (A := rowS H3 kh3 s.shifts) (by repeat' constructor)) (ZaQ (hO.of (A := .fact SS (ZaH ZS)) (by repeat' constructor)))) (by show 1 ≤ s.zones.length; omega) (by show s.zones.length + s.links.length ≤ 100000; omega)); rfl; rintro v O' ⟨A6, c6, n6, ⟨h6, k6⟩, rfl, rfl⟩) | (apply Zah (h := fun w' hw hO => lnW_spec ⟨R, Z, L, H, kr, kz, kl, kh, a.rules.length, ZA.length, a.links.length, ([] : List ByteArray).length, a⟩ w' (rdV hZA hsha (hO.of (A := rowR R kr a.rules) (by repeat' constructor)) (hO.of (A := rowZ Z kz ZA) (by repeat' constructor)) (hO.of (A := rowL L kl a.links) (by repeat' constructor)) (hO.of (A := rowS H kh []) (by repeat' constructor)) (ZaQ (hO.of (A := .fact SA (ZaH ZA)) (by repeat' constructor)))) (by show 1 ≤ a.zones.length; omega) (by show a.zones.length + a.links.length ≤ 100000; omega)); rfl; rintro v O' ⟨A7, c7, n7, ⟨h7, k7⟩, rfl, rfl⟩) | (apply Zah (h := fun w' hw hO => lnW_spec ⟨R2, Z2, L2, H2, kr2, kz2, kl2, kh2, b.rules.length, ZB.length, b.links.length, b.shifts.length, b⟩ w' (rdV hZB rfl (hO.of (A := rowR R2 kr2 b.rules) (by repeat' constructor)) (hO.of (A := rowZ Z2 kz2 ZB) (by repeat' constructor)) (hO.of (A := rowL L2 kl2 b.links) (by repeat' constructor)) (hO.of (A := rowS H2 kh2 b.shifts) (by repeat' constructor)) (ZaQ (hO.of (A := .fact SB (ZaH ZB)) (by repeat' constructor)))) (by show 1 ≤ b.zones.length; omega) (by show b.zones.length + b.links.length ≤ 100000; omega)); rfl; rintro v O' ⟨A8, c8, n8, ⟨h8, k8⟩, rfl, rfl⟩) | (refine bx ?_; intro bk) | (refine stA ?_)); first | refine ⟨_, EndsA, QFMgM5, ?_⟩ | refine fin ?_) | (refine jn ?_; (try intro F); (first | (refine bx ?_; intro bk) | (refine stA ?_) | (apply Zae; first | exact PuMgM5 | exact PuA)); first | refine ⟨_, EndsA, QFMgM5, ?_⟩ | refine fin ?_) | (apply RD_W; rfl; intro bk))
  have hc := hcnt h7 h8 h6
  rw [show decide ((n6.length : Int) = (n7.length : Int) + (n8.length : Int)) = true from decide_eq_true (by omega)]
  repeat (first | refine walk ?_ | (refine jg ?_; (try intro F); (first | (refine Zad (fun w' _ => works_spec w') ?_) | (refine bx ?_; intro bk) | (refine stA ?_)); refine fin ?_) | (refine jn ?_; (try intro F); (first | (refine bx ?_; intro bk) | (refine stA ?_) | (apply Zae; exact PuA)); refine fin ?_) | (apply RD_W; rfl; intro bk))
  exact rtA
end Go.Proofs.YtpcpmndldgejiaaGreatDoor
namespace Go.Proofs.YtpcpmndldgejiaaGreatDoor
open Go Go.RowKit Go.Wk Go.ChangeShapes Go.WideShapes Go.ChangeAt
section
variable {H : Type} {enc : TypeId × Value → H} {w : World} {sp : Nat → Bool} {held : Bool}
theorem o23_by {n : Nat} {cs : List Value} {y : DataW H × List MemPlace} (h : DataW.trod enc Tryz.prog w 0 sp held n 5 cs = some y) : ∃ d : Int, cs = Zdc d ∧ inR .u8 d := by
 obtain ⟨x, e, _, b⟩ := DataW.trod_int Tryz.underlying5 h
 exact ⟨x, e, inR_of b⟩
def RdCell {α : Type} (w : World) (en : α → List Value) (sz : Nat) (ok : α → Prop) (l : List α) (cs : List Value) : Prop := ∃ B cb, RdSl w B cb en sz l ∧ cs = [.slice B l.length cb] ∧ ∀ x ∈ l, ok x
theorem o23_set {n : Nat} {cs : List Value} {y : DataW H × List MemPlace} (h : DataW.trod enc Tryz.prog w 0 sp held n 103 cs = some y) : ∃ l, RdCell w Zdc 1 (inR .u8) l cs := by
 obtain ⟨v, rfl⟩ : ∃ v, cs = [v] := by
  rcases Deep.open_slice Tryz.underlying103 h with ⟨h0, _⟩ | ⟨a, len, cap, m, n, D, Pl, hcs, _⟩
  ·exact ⟨_, h0⟩
  ·exact ⟨_, hcs⟩
 obtain ⟨B, l, cb, rfl, h1, h2⟩ := slice_rd Tryz.underlying103 Zdc (inR .u8) (sz := 1) (by kernel_rfl) (fun n cs y h => o23_by h) h
 exact ⟨l, B, cb, h1, rfl, h2⟩
theorem o23_eras {n : Nat} {cs : List Value} {y : DataW H × List MemPlace} (h : DataW.trod enc Tryz.prog w 0 sp held n 106 cs = some y) : ∃ l, RdCell w E23.enc 8 E23.ok l cs := by
 obtain ⟨v, rfl⟩ : ∃ v, cs = [v] := by
  rcases Deep.open_slice Tryz.underlying106 h with ⟨h0, _⟩ | ⟨a, len, cap, m, n, D, Pl, hcs, _⟩
  ·exact ⟨_, h0⟩
  ·exact ⟨_, hcs⟩
 obtain ⟨B, l, cb, rfl, h1, h2⟩ := slice_rd Tryz.underlying106 E23.enc E23.ok (sz := 8) (by kernel_rfl) (fun n cs y h => rd_E23 h) h
 exact ⟨l, B, cb, h1, rfl, h2⟩
theorem rdLL_of {α : Type} {en : α → List Value} {sz : Nat} {ok : α → Prop} {A : Option Addr} {ls : List (List α)} {c : Nat} (s1 : ls.length ≤ c) (s2 : c ≤ maxLen) (s3 : ∀ k l, ls[k]? = some l → A ≠ none ∧ ∃ cs, RdCell w en sz ok l cs ∧ Zap w ((adr A).add (k * 1)) cs) :
  RdLL w A c en sz ls ∧ ∀ l ∈ ls, ∀ x ∈ l, ok x := by
 refine ⟨⟨s1, s2, fun k l hk => ?_⟩, fun l hl => ?_⟩
 ·obtain ⟨h4, cs', ⟨B, cb, h5, rfl, _⟩, h6⟩ := s3 k l hk
  exact ⟨h4, B, cb, h5, h6⟩
 ·obtain ⟨k, hk⟩ := List.getElem?_of_mem hl
  obtain ⟨_, _, ⟨_, _, _, _, h5⟩, _⟩ := s3 k l hk
  exact h5
set_option maxRecDepth 100000 in
theorem open_d23 {v : Value} {r : Reach} {b0 : Nat} {d : DataW H} {ps : List MemPlace} (hv : Value.okWide Tryz.prog w r b0 26 v) (h : DataW.Trod enc Tryz.prog w 0 sp held 26 v d ps) :
  ∃ As Az Al cs cz cl d, v = d23V As Az Al cs cz cl d ∧ RdLL w As cs Zdc 1 d.sets ∧ RdLL w Az cz E23.enc 8 d.zones ∧ RdSl w Al cl Zdc 1 d.links ∧ (∀ l ∈ d.sets, ∀ x ∈ l, inR .u8 x) ∧ (∀ l ∈ d.zones, ∀ x ∈ l, x.ok) ∧ (∀ x ∈ d.links, inR .u8 x) := by
 obtain ⟨vs, rfl, hsz⟩ := okWide_struct Tryz.underlying26 hv
 obtain ⟨fuel, h⟩ := h
 obtain ⟨hl, hf⟩ := field_of Tryz.underlying26 h
 rw [show Tryz.prog.cellsOf 26 = 3 from by kernel_rfl] at hl
 obtain ⟨vs⟩ := vs
 simp only [Value.cells] at hl hf
 obtain ⟨a0, cs0, rfl, hl0⟩ := Zbg hl
 obtain ⟨a1, cs1, rfl, hl1⟩ := Zbg hl0
 obtain ⟨a2, cs2, rfl, hl2⟩ := Zbg hl1
 obtain rfl := List.eq_nil_of_length_eq_zero hl2
 obtain ⟨n0, y0, h0⟩ := hf 0 22 0 1 rfl (by kernel_rfl)
 obtain ⟨n1, y1, h1⟩ := hf 1 23 1 1 rfl (by kernel_rfl)
 obtain ⟨n2, y2, h2⟩ := hf 2 24 2 1 rfl (by kernel_rfl)
 obtain ⟨As, ls, cs, rfl, s1, s2, s3⟩ := slice_of Tryz.underlying22 (fun (l : List Int) cs => RdCell w Zdc 1 (inR .u8) l cs) (fun n cs y h => o23_set h) h0
 obtain ⟨Az, lz, cz, rfl, z1, z2, z3⟩ := slice_of Tryz.underlying23 (fun (l : List E23) cs => RdCell w E23.enc 8 E23.ok l cs) (fun n cs y h => o23_eras h) h1
 obtain ⟨Al, ll, cl, rfl, l1, l2⟩ := slice_rd Tryz.underlying24 Zdc (inR .u8) (sz := 1) (by kernel_rfl) (fun n cs y h => o23_by h) h2
 rw [show Tryz.prog.cellsOf 103 = 1 from by kernel_rfl] at s3
 rw [show Tryz.prog.cellsOf 106 = 1 from by kernel_rfl] at z3
 obtain ⟨g1, g2⟩ := rdLL_of s1 s2 s3
 obtain ⟨g3, g4⟩ := rdLL_of z1 z2 z3
 exact ⟨As, Az, Al, cs, cz, cl, ⟨ls, lz, ll⟩, rfl, g1, g3, l1, g2, g4, l2⟩
set_option maxRecDepth 100000 in
theorem o23_u8 {v : Value} {r : Reach} {b0 : Nat} {d : DataW H} {ps : List MemPlace} (hv : Value.okWide Tryz.prog w r b0 5 v) (h : DataW.Trod enc Tryz.prog w 0 sp held 5 v d ps) : ∃ x : Int, v = .int .u8 x ∧ inR .u8 x := by
 obtain ⟨n, rfl⟩ := okWide_int Tryz.underlying5 hv
 obtain ⟨fuel, h⟩ := h
 obtain ⟨x, e, b⟩ := o23_by h
 simp only [Value.cells, Zdc, List.cons.injEq, and_true] at e
 exact ⟨x, e, b⟩
end
section
variable {H : Type} {enc : TypeId × Value → H} {w : World} {sp : Nat → Bool} {held : Bool}
set_option maxRecDepth 100000 in
theorem open_i64 {v : Value} {r : Reach} {b0 : Nat} {d : DataW H} {ps : List MemPlace} (hv : Value.okWide Tryz.prog w r b0 2 v) (_h : DataW.Trod enc Tryz.prog w 0 sp held 2 v d ps) : ∃ x : Int, v = .int .i64 x := okWide_int Tryz.underlying2 hv
set_option maxRecDepth 100000 in
theorem open_u8 {v : Value} {r : Reach} {b0 : Nat} {d : DataW H} {ps : List MemPlace} (hv : Value.okWide Tryz.prog w r b0 5 v) (h : DataW.Trod enc Tryz.prog w 0 sp held 5 v d ps) : ∃ x : Int, v = .int .u8 x ∧ inR .u8 x := o23_u8 hv h
end
section
variable {H : Type} {enc : TypeId × Value → H} {w : World} {sp : Nat → Bool} {held : Bool}
set_option maxRecDepth 100000 in
theorem open_bool {v : Value} {r : Reach} {b0 : Nat} {d : DataW H} {ps : List MemPlace} (hv : Value.okWide Tryz.prog w r b0 4 v) (_h : DataW.Trod enc Tryz.prog w 0 sp held 4 v d ps) : ∃ x : Bool, v = .bool x := okWide_bool Tryz.underlying4 hv
end
end Go.Proofs.YtpcpmndldgejiaaGreatDoor
namespace Go.Wk
open Go Go.RowKit Go.ChangeShapes Go.WideShapes Go.ChangeAt
section
variable {H : Type} {enc : TypeId × Value → H}
def cellsOfD : DataW Unit → List Value
 | .agg l => l.map fun | .lit (.int k n) => .int k n | _ => undef
 | .lit (.int k n) => [.int k n]
 | _ => []
end
def tokFn (P : Program) (tb : List (String × FuncId)) (tok : List UInt8) : Option FuncId :=
 if tok = [] then none else (tb.find? fun x => x.1.toUTF8.data.toList == tok && P.funcNamed x.1 == some x.2).map (·.2)
section
variable {H : Type}
def flatAt (P : Program) (tok : H → Option FuncId) : Nat → TypeId → DataW H → Nat → Option Value
 | 0, _, _, _ => none
 | f + 1, t, d, j =>
  match P.underlying t, d with
  | some .bool, .lit (.bool b) => if j = 0 then some (.bool b) else none
  | some (.int k), .lit (.int _ n) => if j = 0 then some (.int k n) else none
  | some .string, .lit (.string l) => if j = 0 then some (.string ⟨l.toArray⟩) else none
  | some (.func ..), .nil => if j = 0 then some .nilFunc else none
  | some (.func ..), .held x => if j = 0 then (tok x).map fun g => .func (.func g) #[] #[] else none
  | some (.array n e), .agg ds => if j / P.cellsOf e < n then (match ds[j / P.cellsOf e]? with | some d' => flatAt P tok f e d' (j % P.cellsOf e) | none => none) else none
  | some (.struct fs), .agg ds =>
   match (List.range fs.size).find? fun i => match fs[i]? with | some x => decide (x.offset ≤ j) && decide (j < x.offset + P.cellsOf x.type) | none => false with
   | some i => (match fs[i]?, ds[i]? with | some x, some d' => flatAt P tok f x.type d' (j - x.offset) | _, _ => none)
   | none => none
  | _, _ => none
end
theorem tokFn_tells {P : Program} {tb : List (String × FuncId)} {l : List UInt8} {g : FuncId} {t : TypeId} {v : Value} (h : tokFn P tb l = some g) (hv : funcToken P (t, v) = l) : v = .func (.func g) #[] #[] := by
 unfold tokFn at h
 cases l with
 | nil => rw [if_pos rfl] at h; cases h
 | cons b r =>
  obtain ⟨f, fn, rfl, h1, h2, h3⟩ := funcToken_tells hv
  rw [if_neg (by simp)] at h
  cases hx : tb.find? (fun x => x.1.toUTF8.data.toList == b :: r && P.funcNamed x.1 == some x.2) with
  | none => rw [hx] at h; cases h
  | some x =>
   rw [hx] at h
   have hp := List.find?_some hx
   simp only [Bool.and_eq_true, beq_iff_eq] at hp
   have hs : x.1 = fn.name := by
    have : x.1.toUTF8 = fn.name.toUTF8 := by
     apply ByteArray.ext
     apply Array.ext'
     rw [hp.1, h3]
    exact String.toByteArray_inj.1 this
   rw [hs, h2] at hp
   have := hp.2
   simp only [Option.map_some, Option.some.injEq] at h this
   rw [this, h]
theorem piece_get {cs : List Value} {o c j : Nat} {v : Value} (h : ((cs.drop o).take c)[j]? = some v) : cs[o + j]? = some v := by
 rw [List.getElem?_take] at h
 split at h
 ·rwa [List.getElem?_drop] at h
 ·cases h
theorem flatAt_ok {H : Type} {enc : TypeId × Value → H} {tok : H → Option FuncId} {P : Program} {w : World} {base : Nat} {sp : Nat → Bool} {held : Bool} (htok : ∀ t v g, tok (enc (t, v)) = some g → v = .func (.func g) #[] #[]) : ∀ (f : Nat) (t : TypeId) (d : DataW H) (j : Nat) (v : Value) (fuel : Nat) (cs : List Value) (p : List MemPlace), flatAt P tok f t d j = some v →
  DataW.trod enc P w base sp held fuel t cs = some (d, p) → cs[j]? = some v
 | 0, _, _, _, _, _, _, _, h, _ => by cases h
 | f + 1, t, d, j, v, fuel, cs, p, h, ht => by
  unfold flatAt at h
  split at h
  ·rename_i hu
   obtain ⟨b', rfl, hx⟩ := DataW.trod_bool hu ht
   simp only [Prod.mk.injEq, DataW.lit.injEq, Lit.bool.injEq] at hx
   split at h
   ·rename_i hj
    subst hj
    simp only [Option.some.injEq] at h
    rw [← h, hx.1]; rfl
   ·cases h
  ·rename_i hu
   obtain ⟨n', rfl, hx, _⟩ := DataW.trod_int hu ht
   simp only [Prod.mk.injEq, DataW.lit.injEq, Lit.int.injEq] at hx
   split at h
   ·rename_i hj
    subst hj
    simp only [Option.some.injEq] at h
    rw [← h, hx.1.2]; rfl
   ·cases h
  ·rename_i hu
   obtain ⟨s, rfl, hx, _⟩ := DataW.trod_string hu ht
   simp only [Prod.mk.injEq, DataW.lit.injEq, Lit.string.injEq] at hx
   split at h
   ·rename_i hj
    subst hj
    simp only [Option.some.injEq] at h
    rw [← h, hx.1]; simp
   ·cases h
  ·rename_i hu
   split at h
   ·rename_i hj
    subst hj
    cases fuel with
    | zero => simp [DataW.trod] at ht
    | succ n =>
     unfold DataW.trod at ht
     rw [hu] at ht
     simp only [Option.some.injEq] at h
     subst h
     split at ht <;> simp_all
   ·cases h
  ·rename_i hu
   split at h
   ·rename_i hj
    subst hj
    cases fuel with
    | zero => simp [DataW.trod] at ht
    | succ n =>
     unfold DataW.trod at ht
     rw [hu] at ht
     rename_i x0
     cases hk : tok x0 with
     | none => rw [hk] at h; cases h
     | some g =>
      rw [hk] at h
      simp only [Option.map_some, Option.some.injEq] at h
      subst h
      split at ht <;> first | (exfalso; simp_all; done) | skip
      all_goals (split at ht <;> first | (exfalso; simp_all; done) | skip)
      all_goals simp only [Option.some.injEq, Prod.mk.injEq, DataW.held.injEq] at ht
      all_goals (rw [← ht.1] at hk; rw [htok _ _ _ hk]; rfl)
   ·cases h
  ·rename_i n e ds hu
   obtain ⟨xs, m, rfl, hx, hlen, hn, hel⟩ := DataW.trod_array hu ht
   simp only [Prod.mk.injEq, DataW.agg.injEq] at hx
   split at h
   ·rename_i hj
    split at h
    ·rename_i d' hd
     rw [hx.1, List.getElem?_map] at hd
     cases hy : xs[j / P.cellsOf e]? with
     | none => rw [hy] at hd; cases hd
     | some y =>
      rw [hy] at hd
      simp only [Option.map_some, Option.some.injEq] at hd
      have h1 := hel _ hj
      rw [hy] at h1
      have h2 := flatAt_ok htok f e d' _ v m _ y.2 h (by rw [h1, ← hd])
      have h3 := piece_get h2
      rwa [Nat.mul_comm, Nat.div_add_mod] at h3
    ·cases h
   ·cases h
  ·rename_i fs ds hu
   obtain ⟨xs, m, rfl, hx, hlen, hn, hel⟩ := DataW.trod_struct hu ht
   simp only [Prod.mk.injEq, DataW.agg.injEq] at hx
   split at h
   ·rename_i i hi
    split at h
    ·rename_i x d' hf hd
     rw [hx.1, List.getElem?_map] at hd
     cases hy : xs[i]? with
     | none => rw [hy] at hd; cases hd
     | some y =>
      rw [hy] at hd
      simp only [Option.map_some, Option.some.injEq] at hd
      have h1 := hel i x hf
      rw [hy] at h1
      have h2 := flatAt_ok htok f x.type d' _ v m _ y.2 h (by rw [h1, ← hd])
      have h3 := piece_get h2
      have hp := List.find?_some hi
      rw [hf] at hp
      simp only [Bool.and_eq_true, decide_eq_true_eq] at hp
      rwa [show x.offset + (j - x.offset) = j by omega] at h3
    ·cases h
   ·cases h
  ·cases h
theorem cells_of_trod {H : Type} {enc : TypeId × Value → H} {tok : H → Option FuncId} {P : Program} {w : World} {base : Nat} {sp : Nat → Bool} {held : Bool} (htok : ∀ t v g, tok (enc (t, v)) = some g → v = .func (.func g) #[] #[]) {n : String} {d : DataW H} {g : Nat} {t : TypeId} {cells : List Value} {s : Nat} {cs : Array Value} {fu : Nat} {p : List MemPlace} (fuel : Nat)
  (h1 : P.globalNamed n = some g) (h3 : w.var? P n = some cs) (h4 : DataW.trod enc P w base sp held fu t cs.toList = some (d, p)) (hc : (List.range cells.length).map (fun j => flatAt P tok fuel t d (s + j)) = cells.map some) : Zap w ⟨g, s, none⟩ cells := by
 intro j v hj
 have hjl := (List.getElem?_eq_some_iff.1 hj).1
 have h5 := congrArg (fun l => l[j]?) hc
 simp only [List.getElem?_map, List.getElem?_range hjl, Option.map_some, hj] at h5
 simp only [Option.some.injEq] at h5
 have h6 := flatAt_ok htok fuel t _ _ v _ _ _ h5 h4
 rw [Zcc]
 have h7 := World.var?_cell h1 h3 (s + j)
 rw [h7]
 simpa using h6
theorem Zdt {P : Program} {w : World} {n : String} {d : DataW Unit} {g : Nat} {t : TypeId} {cells : List Value} {s : Nat} (tb : List (String × FuncId)) (fuel : Nat) (h : funcsAt P w n d) (hg : P.globalNamed n = some g) (ht : (P.globals[g]?).map (·.type) = some t)
  (hc : (List.range cells.length).map (fun j => flatAt P (tokFn P tb) fuel t d.funcsOut (s + j)) = cells.map some) : Zap w ⟨g, s, none⟩ cells := by
 obtain ⟨g', t', cs, fu, p, h1, h2, h3, h4⟩ := h
 obtain rfl := Option.some.inj (hg.symm.trans h1)
 obtain rfl := Option.some.inj (ht.symm.trans h2)
 exact cells_of_trod (fun _ _ _ hk => tokFn_tells hk rfl) fuel h1 h3 h4 hc
theorem Zey {P : Program} {w : World} : ∀ {l : List (String × DataW Unit)} {ps : List MemPlace}, DataW.LaidVars P w l ps → ∀ {n : String} {d : DataW Unit}, (n, d) ∈ l →
  ∃ g t cs fuel p, P.globalNamed n = some g ∧ (P.globals[g]?).map (·.type) = some t ∧ w.var? P n = some cs ∧ DataW.trod (fun _ => ()) P w 0 (fun _ => true) false fuel t cs.toList = some (d, p)
 | [], _, _, _, _, h => by cases h
 | (n0, d0) :: l, ps, hl, n, d, h => by
  obtain ⟨g, t, cs, fuel, p, q, h1, h2, h3, h4, h5, _⟩ := hl
  rcases List.mem_cons.1 h with he | h
  ·obtain ⟨rfl, rfl⟩ := Prod.mk.inj he
   exact ⟨g, t, cs, fuel, p, h1, h2, h3, h4⟩
  ·exact Zey h5 h
theorem laidMetH_met {P : Program} {l : List (String × DataW Unit)} {w : World} (h : laidMetH P l w) : laidMet P (l.filter fun x => x.2.handleName?.isNone) w := by
 unfold laidMetH at h
 generalize hfl : (l.filter fun x => x.2.handleName?.isSome) = fl at h
 cases fl with
 | nil =>
  have e : (l.filter fun x => x.2.handleName?.isNone) = l := by
   rw [List.filter_eq_self]
   intro x hx
   have := (List.filter_eq_nil_iff.1 hfl) x hx
   cases hn : x.2.handleName? with
   | none => rfl
   | some s => rw [hn] at this; exact absurd rfl this
  rw [e]
  exact h
 | cons a ys => exact h.1
theorem cells_of_laid {P : Program} {w : World} {l : List (String × DataW Unit)} {n : String} {d : DataW Unit} {g : Nat} {t : TypeId} {cells : List Value} (fuel : Nat) (h : laidMetH P l w) (hm : (n, d) ∈ l.filter fun x => x.2.handleName?.isNone) (hg : P.globalNamed n = some g) (ht : (P.globals[g]?).map (·.type) = some t)
  (hc : (List.range cells.length).map (fun j => flatAt P (fun _ : Unit => none) fuel t d (0 + j)) = cells.map some) : Zap w ⟨g, 0, none⟩ cells := by
 obtain ⟨ps, hl, _⟩ := laidMetH_met h
 obtain ⟨g', t', cs, fu, p, h1, h2, h3, h4⟩ := Zey hl hm
 obtain rfl := Option.some.inj (hg.symm.trans h1)
 obtain rfl := Option.some.inj (ht.symm.trans h2)
 exact cells_of_trod (fun _ _ _ hk => by cases hk) fuel h1 h3 h4 hc
def isIfc : TypeDesc → Bool | .interface _ => true | _ => false
theorem iface_of_laid {P : Program} {w : World} {l : List (String × DataW Unit)} {n : String} {d : DataW Unit} {g : Nat} {t : TypeId} (h : laidMetH P l w) (hm : (n, d) ∈ l.filter fun x => x.2.handleName?.isNone) (hg : P.globalNamed n = some g) (ht : (P.globals[g]?).map (·.type) = some t)
  (hi : (P.underlying t).map isIfc = some true) : ∃ ev, w.cell? ⟨g, 0, none⟩ = some ev ∧ (ev = .nilIface ∨ ∃ te pe, ev = .iface te pe) := by
 obtain ⟨ps, hl, _⟩ := laidMetH_met h
 obtain ⟨g', t', cs, fu, p, h1, h2, h3, h4⟩ := Zey hl hm
 obtain rfl := Option.some.inj (hg.symm.trans h1)
 obtain rfl := Option.some.inj (ht.symm.trans h2)
 have h7 := World.var?_cell h1 h3 0
 obtain ⟨ms, hu⟩ : ∃ ms, P.underlying t = some (.interface ms) := by
  cases hd : P.underlying t with
  | none => rw [hd] at hi; cases hi
  | some td => cases td <;> first | exact ⟨_, rfl⟩ | (rw [hd] at hi; simp [isIfc] at hi)
 cases fu with
 | zero => simp [DataW.trod] at h4
 | succ f =>
  unfold DataW.trod at h4
  rw [hu] at h4
  split at h4 <;> first | (exfalso; simp_all; done) | skip
  ·rename_i hc
   exact ⟨.nilIface, by rw [h7, ← Array.getElem?_toList, hc]; rfl, .inl rfl⟩
  ·rename_i hc
   exact ⟨_, by rw [h7, ← Array.getElem?_toList, hc]; rfl, .inr ⟨_, _, rfl⟩⟩
section
variable {H : Type} {enc : TypeId × Value → H}
theorem law_liftedS {C : Checked} {os : Os} {f : FuncId} {fn : Func} {s : ChangeSpec} {conds : List PathCond} {t : TypeId} (laid : List (String × DataW Unit)) (own : ownKnob C.prog.godebug = none) (started : os.Started) (noInit : C.prog.inits.idxOf? f = none) (hfn : C.prog.funcs[f]? = some fn)
  (witness : ∃ (w : World) (tape : Tape) (i : Input), w.os = os ∧ (w.forCall tape i).Shaped C.prog ∧ i.vars = [] ∧ Input.okWide C.prog (w.forCall tape i) .any w.heap.size f i ∧
   ((s.pre enc C.prog fn conds false (w.forCall tape i).memory i.args ∧ laidMetH C.prog laid (w.forCall tape i).memory) ∧ sizedMet enc C.prog fn (OpenSpec.ofChange s) false (w.forCall tape i).memory i.args) ∧ ({} : Assume).holds C.prog (lone (Frame.enter C.prog f i.args .normal) [] (w.forCall tape i)))
  (hvars : s.vars = []) (hres : fn.resultTypes = #[t]) (ht : C.prog.underlying t = some .bool) (hl : laidOutB C.prog = true)
  (hr : fn.params.toList.all (fun t => C.prog.readableRec t && decide (t < C.prog.types.size)) = true) (hspec : ∀ ds : List (DataW H), ds.length = fn.params.toList.length → s.fn H ds = { results := [.lit (.bool true)], args := ds })
  (walk : ∀ (W : World) (base : Nat) (args : List Value) (ds : List (DataW H)) (p : List MemPlace), (∀ (j : Nat) t v, fn.params.toList[j]? = some t → args[j]? = some v → Value.okWide C.prog W .any base t v) → laidMetH C.prog laid W → W.ShapedOpen C.prog →
   DataW.TrodAll enc C.prog W 0 (fun _ => true) true fn.params.toList args ds p → Does C.prog f args W (fun v _ => v = .bool true)) :
  ReturnsInHanded {} C os f .any (fun w args => (s.pre enc C.prog fn conds false w args ∧ laidMetH C.prog laid w) ∧ sizedMet enc C.prog fn (OpenSpec.ofChange s) false w args) (s.post enc C.prog fn false true false false) := by
 have hr' : ∀ t ∈ fn.params.toList, C.prog.readableRec t = true ∧ t < C.prog.types.size := fun t ht => by
  have := List.all_eq_true.1 hr t ht
  simpa using this
 refine returnsInHanded_of_calls own started noInit witness ?_
 intro w tape i _ hsh _ hok hpre hholds
 obtain ⟨_, _, _, fn', hfn', _, _, _, _, hval⟩ := hok
 have e : fn' = fn := Option.some.inj (hfn'.symm.trans hfn)
 subst e
 obtain ⟨⟨⟨ds, gs, before, hw, hc⟩, hx⟩, hz⟩ := hpre
 have hw' := DataW.Whole.of_heap (w' := w.forCall tape i) (by rfl) hw
 obtain ⟨p, q, hA, _⟩ := id hw'
 have hd := walk (w.forCall tape i) w.heap.size i.args.toList ds p (fun j t v h1 h2 => hval j t v (by simpa using h1) (by simpa using h2)) (laidMetH.of_heap (by rfl) hx) hsh hA
 unfold Does at hd
 rw [Array.toArray_toList] at hd
 refine hd.mono ?_
 rintro e W' ⟨v, O, rfl, hb, _, rfl⟩
 exact ChangeSpec.post_blind (law_post hvars hres ht hl hr' hspec hw' hb.toBelow)
end
end Go.Wk
