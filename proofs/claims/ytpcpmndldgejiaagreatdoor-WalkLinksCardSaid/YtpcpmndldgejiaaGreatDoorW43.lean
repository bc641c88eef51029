/- Parts of the proof. -/
import Derived.Test.YtpcpmndldgejiaaGreatDoorW22
import Derived.Test.YtpcpmndldgejiaaGreatDoorW29
import Derived.Test.YtpcpmndldgejiaaGreatDoorW14
import Derived.Test.YtpcpmndldgejiaaGreatDoorRows
import Derived.LaidSub
import Derived.SevenTiedAt
import Derived.JoinedOf
import Derived.KernelRfl
set_option maxHeartbeats 4000000
set_option linter.unusedVariables false
set_option linter.unusedSimpArgs false
namespace Go.Proofs.YtpcpmndldgejiaaGreatDoor
open Go Go.RowKit Go.Wk
def newN : ByteArray := ⟨#[78, 101, 119, 47, 76, 105, 110, 107]⟩
def addL (s : Zai) (x : ByteArray) : Zai := ⟨s.rules, s.zones, s.links ++ [⟨x, newN⟩], s.shifts⟩
theorem ZoR : ∀ nz : Fin 4, ∀ nl : Fin 5, ∀ a : Fin 3, ∀ b : Fin 4, ∀ c : Fin 5, ∀ d : Fin 6, a.val < nz.val -> b.val < nz.val + 1 -> c.val < nz.val + 2 -> d.val < nz.val + 3 ->
  Zb7 ⟨[], Zgn nz.val, ZfE nz.val (ch4 a.val b.val c.val d.val) nl.val ++ [⟨Zbg.getD 0 ByteArray.empty, newN⟩], []⟩ = none /\ ZaK ⟨[], Zgn nz.val, ZfE nz.val (ch4 a.val b.val c.val d.val) nl.val ++ [⟨Zbg.getD 0 ByteArray.empty, newN⟩], []⟩ (nl.val + 2) [] newN = (0, 0) := by decide +kernel
theorem Zrs {s : Zai} {x : ByteArray} (h : ZcQ s = none) (hl : s.links.length <= 100) : ZcQ (addL s x) = none := by
 have hla : (s.links ++ [(⟨x, newN⟩ : Zbf)]).length <= 101 := by rw [List.length_append]; show _ + 1 <= 101; omega
 unfold ZcQ at h
 unfold ZcQ addL
 dsimp only
 split at h
 ·cases h
 rename_i h1
 split at h
 ·cases h
 rename_i h2
 rw [if_neg h1, if_neg h2]
 split at h
 ·cases h
 split at h
 ·cases h
 split at h
 ·cases h
 rename_i h5
 rw [if_neg (by omega), if_neg h5]
theorem Ztu (d : DD23) {z : ZaY} (hz : (Zap d).zones[0]? = some z) : z.name = Zbg.getD 0 ByteArray.empty := by
 obtain ⟨z1, z3⟩ := ZbK d.zones
 have h := (ZiU d).1
 have h2 : ((Zap d).zones.map (·.name))[0]? = some z.name := by rw [List.getElem?_map, hz]; rfl
 rw [h, List.getElem?_take, if_pos (by omega)] at h2
 have h3 : Zbg[0]? = some (Zbg.getD 0 ByteArray.empty) := rfl
 rw [h3] at h2
 exact (Option.some.inj h2).symm
theorem Zk3 (d : DD23) : Zb7 (addL (Zap d) (Zbg.getD 0 ByteArray.empty)) = none /\ ZaK (addL (Zap d) (Zbg.getD 0 ByteArray.empty)) ((addL (Zap d) (Zbg.getD 0 ByteArray.empty)).links.length + 1) [] newN = (0, 0) := by
 obtain ⟨z1, z3⟩ := ZbK d.zones
 have hl : (d.links.take 4).length <= 4 := by rw [List.length_take]; omega
 obtain ⟨c, q1, q2⟩ := Zcs (zl23 d.zones).length z1 z3 (d.links.take 4) (d.links.take 4).length hl
 have hln : (Zap d).links.length = (d.links.take 4).length := Zct _ _ _
 have r0 := q1 0
 have r1 := q1 1
 have r2 := q1 2
 have r3 := q1 3
 have hf := ZoR ⟨(zl23 d.zones).length, by omega⟩ ⟨(d.links.take 4).length, by omega⟩ ⟨c 0, by omega⟩ ⟨c 1, by omega⟩ ⟨c 2, by omega⟩ ⟨c 3, by omega⟩ (by dsimp only; omega) (by dsimp only; omega) (by dsimp only; omega) (by dsimp only; omega)
 have hcc := Zdi (zl23 d.zones).length c (ch4 (c 0) (c 1) (c 2) (c 3)) (d.links.take 4).length fun i hi => by
  have hc : i = 0 \/ i = 1 \/ i = 2 \/ i = 3 := by omega
  rcases hc with rfl | rfl | rfl | rfl <;> rfl
 have hlk : (Zap d).links = Zby (zl23 d.zones).length (d.links.take 4) (d.links.take 4).length := rfl
 have hzb : (Zap d).zones.map ZjF = Zgn _ := Zb6 d.ns (zl23 d.zones) _ z3
 have hla : (addL (Zap d) (Zbg.getD 0 ByteArray.empty)).links.length + 1 = (d.links.take 4).length + 2 := by
  show ((Zap d).links ++ [_]).length + 1 = _
  rw [List.length_append, hln]
  rfl
 rw [Zeg, <- ZdC, hla]
 unfold addL Ze9
 dsimp only
 rw [hzb, hlk, q2, hcc]
 exact hf
theorem ZwP (d : DD23) : accD (addL (Zap d) (Zbg.getD 0 ByteArray.empty)) = none := by
 have h1 := ZeU d
 have h2 := ZeV d
 unfold accD
 rw [Zrs h1 (by omega), (Zk3 d).1, show Zh6 (addL (Zap d) (Zbg.getD 0 ByteArray.empty)) = none from Zf7 d, show ZbM (addL (Zap d) (Zbg.getD 0 ByteArray.empty)).rules (addL (Zap d) (Zbg.getD 0 ByteArray.empty)).zones 0 = none from ZeD _ 0 (ZaX d)]
 rfl
theorem ZwO (d : DD23) : Sml (addL (Zap d) (Zbg.getD 0 ByteArray.empty)) := by
 have h := ZbU d
 have h2 := ZeV d
 refine ⟨h.nr, h.nz, ?_, h.ns, h.rs, h.zs, fun l hl => ?_⟩
 ·show ((Zap d).links ++ [_]).length <= 100
  rw [List.length_append]
  show _ + 1 <= 100
  omega
 ·rcases List.mem_append.1 (show l ∈ (Zap d).links ++ [_] from hl) with hl | hl
  ·exact h.ls l hl
  ·rw [List.mem_singleton.1 hl]
   exact ⟨by decide, by decide⟩
attribute [local irreducible] W RL Does Zay Zam retQ Calls Pu Stp RD Qy Ay Zan RLI WI Pre Zap
structure LkG where
 k : Nat
 t : Int
theorem Zst {a : Zai} (h : accD a = none) (hf : ZaK a (a.links.length + 1) [] newN = (0, 0)) : ZbI a newN = (((0 : Nat) : Int), 0) := by
 unfold ZbI
 rw [h]
 dsimp only
 rw [hf]
theorem Zlb {G : Prop} (h : G := by (first | (apply Zav; rfl; rfl; omega; omega; (intro w' _ hO; exact Zbp (hO.of (A := rowZ Z1 z1 Zs1) (by repeat' constructor)) (by omega))) | (apply Zcj; rfl; (focus repeat' constructor); exact hzN))) : G := h
theorem ZuJ {G : Prop} (h : G := by first | (apply Qy_y; rfl; exact Zlb) | exact QyA) : G := h
theorem Zq3 {G : Prop} (h : G := by repeat (first | exact QF.nil | (apply QF.mk; rfl; rfl; decide +kernel; exact ZuJ))) : G := h
theorem Zq6 {G : Prop} (h : G := by (first | exact Zlb | (apply ZaE; rfl; rfl; first | exact e0 | exact e1) | (apply Pu_neqB; rfl; rfl; exact e2))) : G := h
theorem Zxy {G : Prop} (h : G := by first | (apply Qy_y; rfl; exact Zq6) | exact QyA) : G := h
theorem ZxQ {G : Prop} (h : G := by repeat (first | exact QF.nil | (apply QF.mk; rfl; rfl; decide +kernel; exact Zxy))) : G := h
theorem Zoa {G : Prop} (h : G := by (first | exact Zq6 | (apply ZaE; rfl; rfl; exact q1))) : G := h
theorem Zxx {G : Prop} (h : G := by first | (apply Qy_y; rfl; exact Zoa) | exact QyA) : G := h
theorem ZxP {G : Prop} (h : G := by repeat (first | exact QF.nil | (apply QF.mk; rfl; rfl; decide +kernel; exact Zxx))) : G := h
theorem Zva {G : Prop} (h : G := by (first | exact Zoa | (apply ZaG; rfl; rfl; exact q2) | (apply ZcN; rfl; rfl; exact q3))) : G := h
theorem Zxw {G : Prop} (h : G := by first | (apply Qy_y; rfl; exact Zva) | exact QyA) : G := h
theorem ZxO {G : Prop} (h : G := by repeat (first | exact QF.nil | (apply QF.mk; rfl; rfl; decide +kernel; exact Zxw))) : G := h
theorem Zu9 {G : Prop} (h : G := by (first | exact Zoa | (apply ZaG; rfl; rfl; exact q2))) : G := h
theorem Zxv {G : Prop} (h : G := by first | (apply Qy_y; rfl; exact Zu9) | exact QyA) : G := h
theorem ZxN {G : Prop} (h : G := by repeat (first | exact QF.nil | (apply QF.mk; rfl; rfl; decide +kernel; exact Zxv))) : G := h
set_option maxHeartbeats 8000000 in
set_option maxRecDepth 20000 in
theorem Zj2 (As Az Al : Option Addr) (cs cz cl : Nat) (d : DD23) (n : Int) (w : World) (hL : LibW w) (hG : Glob w) (hS : RdLL w As cs ZcH 1 d.sets) (hZ : RdLL w Az cz E23.enc 8 d.zones) (hD : RdSl w Al cl ZcH 1 d.links) (hrs : ∀ l ∈ d.sets, ∀ x ∈ l, inR .u8 x) (hrz : ∀ l ∈ d.zones, ∀ x ∈ l, x.ok) (hrl : ∀ x ∈ d.links, inR .u8 x) (hnn : inR .u64 n) :
  Does Tryz.prog 4 [d23V As Az Al cs cz cl d, .int .u64 n] w (fun v O => v = .bool true /\ O = []) := by
 have hwk := fun w' (hw : Bel w.heap.size w w') => Zdw w' (hL.up hw) (hG.up hw)
 have hmk := fun w' (hw : Bel w.heap.size w w') => (Zf6 As Az Al cs cz cl d w' (hS.up hw) (hZ.up hw) (hD.up hw) hrs hrz hrl).monoO fun _ _ h => ZmR h
 have hacc := ZwP d
 have hlk := (Zk3 d).2
 have hsml := ZwO d
 have hma : MnOk (addL (Zap d) (Zbg.getD 0 ByteArray.empty)) := Zto hacc (ZaX d)
 have hzs := ZaX d
 have hz0 := fun z => Ztu d (z := z)
 have hsm := ZbU d
 have hnz : 1 <= (Zap d).zones.length := by
  rw [Zdf]
  exact (ZbK d.zones).1
 generalize Zap d = s at *
 have hzl : s.zones.length <= 100 := hsm.nz
 have hll : s.links.length <= 100 := hsm.nl
 have hn2 : 0 <= n /\ n <= 18446744073709551615 := ZoX.1 hnn
 have hat := fun w' (hw : Bel w.heap.size w w') => ZjG n w' (hG.up hw) hn2
 have hT := Zuq hn2.1
 generalize atT n = t0 at *
 refine Zab Tryz.func4 rfl rfl rfl rfl ?_
 repeat (first | refine ZvV ?_ | (refine jg ?_; (try intro F); (first | (apply Zag (h := fun w' hw _ => hmk w' hw); rfl; rintro v O' ⟨R1, r1, Z1, z1, L1, l1, H1, h1, Zs1, S1, rfl, hZ1, rfl⟩) | (refine bx ?_; intro bk) | (refine stA ?_)); refine fin ?_) | (refine jn ?_; (try intro F); (first | (refine bx ?_; intro bk) | (refine stA ?_) | (apply Zae; exact PuA)); refine fin ?_) | (apply RD_W; rfl; intro bk))
 generalize bk = b5
 obtain ⟨z, hzi⟩ : ∃ z, s.zones[0]? = some z := ⟨_, List.getElem?_eq_getElem (by omega)⟩
 have hzx := hz0 z hzi
 have hzlen : Zs1.length = s.zones.length := by rw [<- hZ1, List.length_map]
 obtain ⟨q, hq⟩ : ∃ q, Zs1[0]? = some q := ⟨_, List.getElem?_eq_getElem (by omega)⟩
 have hqz : q.z = z := by
  have : s.zones[0]? = some q.z := by rw [<- hZ1, List.getElem?_map, hq]; rfl
  rw [hzi] at this
  exact (Option.some.inj this).symm
 obtain ⟨x, hx⟩ : ∃ x, Zbg.getD 0 ByteArray.empty = x := ⟨_, rfl⟩
 rw [hx] at hzx hacc hlk hsml hma
 have hzN : (Zs1.flatMap ZE.enc)[(0 : Int).toNat * 2 + 0]? = some (.string x) := by
  have := ZaC ZE.len Zs1 0 q 0 _ hq rfl
  exact this.trans (by rw [hqz, hzx])
 obtain ⟨Y, hY⟩ := hzs z (List.mem_of_getElem? hzi)
 repeat (first | (apply RL_pu; rfl; exact Zlb) | (apply RD_Q; rfl; rfl; decide +kernel; rfl; rfl; exact ZuJ) | refine walkB1 ?_ | (refine jg ?_; (try intro F); (first | (apply Zau; rfl; rfl; (intro A' c'; (focus repeat' constructor)); (intro w' _ hO; exact Za4 (hO.of (by repeat' constructor))); rfl; rfl; (simp only [maxLen]; omega); omega; intro L3 l3 hc1 hc2 hc3) | (refine Zac hat ?_) | (refine bx ?_; intro bk) | (refine stA ?_)); first | refine ⟨_, EndsA, Zq3, ?_⟩ | refine fin ?_) | (refine jn ?_; (try intro F); (first | (apply Zau; rfl; rfl; (intro A' c'; (focus repeat' constructor)); (intro w' _ hO; exact Za4 (hO.of (by repeat' constructor))); rfl; rfl; (simp only [maxLen]; omega); omega; intro L3 l3 hc1 hc2 hc3) | (refine bx ?_; intro bk) | (refine stA ?_) | (apply Zae; first | exact Zlb | exact PuA)); first | refine ⟨_, EndsA, Zq3, ?_⟩ | refine fin ?_) | (apply RD_W; rfl; intro bk))
 obtain ⟨a, ha⟩ : ∃ a, addL s x = a := ⟨_, rfl⟩
 rw [ha] at hacc hlk hsml hma
 have hal : a.links.length = s.links.length + 1 := by rw [<- ha]; show (s.links ++ [_]).length = _; rw [List.length_append]; rfl
 have har : a.rules = s.rules := by rw [<- ha]; rfl
 have haz : a.zones = s.zones := by rw [<- ha]; rfl
 have hah : a.shifts = s.shifts := by rw [<- ha]; rfl
 have hbox : It.blk b5 [.slice R1 s.rules.length r1, .slice Z1 s.zones.length z1, .slice L3 (s.links.length + 1) l3, .slice H1 s.shifts.length h1] 34 = It.blk b5 [.slice R1 a.rules.length r1, .slice Z1 a.zones.length z1, .slice L3 a.links.length l3, .slice H1 a.shifts.length h1] 34 := by rw [hal, har, haz, hah]
 have hlrow : It.row (.slice L3 (s.links.length + 1) l3) 56 2 (s.links.length + 1) (s.links.flatMap Zbf.enc ++ [.string x, .string newN]) = rowL L3 l3 a.links := by
  have e : a.links.flatMap Zbf.enc = s.links.flatMap Zbf.enc ++ [.string x, .string newN] := by
   rw [<- ha]
   show (s.links ++ [_]).flatMap Zbf.enc = _
   rw [List.flatMap_append]
   rfl
  unfold rowL
  rw [hal, e]
 refine Zch (fr' := [(1, .int .u64 n), (4, .bool false), (5, .pointer (some ⟨b5, 0, none⟩)), (6, .int .i64 t0), (36, .int .i64 0)]) (O' := [.blk b5 [.slice R1 s.rules.length r1, .slice Z1 s.zones.length z1, .slice L3 (s.links.length + 1) l3, .slice H1 s.shifts.length h1] 34, rowR R1 r1 s.rules, rowZ Z1 z1 Zs1, .row (.slice L3 (s.links.length + 1) l3) 56 2 (s.links.length + 1) (s.links.flatMap Zbf.enc ++ [.string x, .string newN]), rowS H1 h1 s.shifts, .fact S1 (ZaQ Zs1)]) SFA SOA ?_
 rw [hbox, hlrow]
 rw [<- haz] at hZ1 hzi hzlen
 rw [<- har] at hY
 have hY : ZaJ a.rules z.eras Y := hY
 have hR : rowR R1 r1 s.rules = rowR R1 r1 a.rules := by rw [har]
 have hH : rowS H1 h1 s.shifts = rowS H1 h1 a.shifts := by rw [hah]
 rw [hR, hH]
 have hal2 : a.links.length <= 101 := by omega
 have hzl2 : a.zones.length <= 100 := by rw [haz]; exact hzl
 clear hbox hlrow hR hH ha hal har haz hah hsm hmk hS hZ hD hz0 hzs hnz hzl hll hqz hc1 hc2 hc3
 have hzz := Zkd hacc hzi
 rw [hzx] at hzz
 have hzn := Zst hacc hlk
 have hza1 : 1 <= a.zones.length := by rw [<- hzlen]; have := (List.getElem?_eq_some_iff.1 hq).1; omega
 have hsum : a.zones.length + a.links.length <= 1000000 := by omega
 have hok := fun w' (hw : Bel w.heap.size w w') (hA : Zaj w' R1 Z1 L3 H1 r1 z1 l3 h1 a) => hsml.acc (hL.up hw) (hG.up hw) hA
 have knx := fun (nm : ByteArray) (hn : ZbI a nm = (((0 : Nat) : Int), 0)) (t' : Int) (ht' : tOk t' = true) w' (hw : Bel w.heap.size w w') (hA : Zaj w' R1 Z1 L3 H1 r1 z1 l3 h1 a) => ZiP R1 Z1 L3 H1 r1 z1 l3 h1 a nm w' (hok w' hw hA) hsum hma hn hzi hY t' ht'
 have ker := fun (t' : Int) (ht' : tOk t' = true) w' (hw : Bel w.heap.size w w') (hA : Zaj w' R1 Z1 L3 H1 r1 z1 l3 h1 a) => mEra R1 Z1 L3 H1 r1 z1 l3 h1 a newN t' w' (hok w' hw hA) hsum hma ht' hzn hzi
 have e0 : (!decide ((0 : Int) = 0)) = false := rfl
 have e2b : ∀ b : Bool, (b != b) = false := fun b => by cases b <;> rfl
 refine Zb0 (fun fr' O' => Sub [(1, .int .u64 n), (5, .pointer (some ⟨b5, 0, none⟩))] fr' /\ SubO [.blk b5 [.slice R1 a.rules.length r1, .slice Z1 a.zones.length z1, .slice L3 a.links.length l3, .slice H1 a.shifts.length h1] 34, rowR R1 r1 a.rules, rowZ Z1 z1 Zs1, rowL L3 l3 a.links, rowS H1 h1 a.shifts, .fact S1 (ZaQ Zs1)] O') ?_ ?_
 ·apply W_block
  refine Zaq [(1, .int .u64 n), (4, .bool false), (5, .pointer (some ⟨b5, 0, none⟩))] [.blk b5 [.slice R1 a.rules.length r1, .slice Z1 a.zones.length z1, .slice L3 a.links.length l3, .slice H1 a.shifts.length h1] 34, rowR R1 r1 a.rules, rowZ Z1 z1 Zs1, rowL L3 l3 a.links, rowS H1 h1 a.shifts, .fact S1 (ZaQ Zs1)] (fun g : LkG => [(6, .int .i64 g.t), (36, .int .i64 g.k)]) (fun _ => [])
   (fun g => g.k <= 6 /\ t0 <= g.t /\ g.t <= 10000000000 + 50000000 * (g.k : Int) /\ (g.t = t0 \/ ∃ p, t0 <= p /\ p <= g.t /\ nxD a.rules z.eras p = some g.t)) (fun g => 6 - g.k) ⟨0, t0⟩ SFA SOA ⟨Nat.zero_le _, Int.le_refl _, by dsimp only; omega, .inl rfl⟩ ?_
  rintro ⟨k, t⟩ ⟨hk, hta, htb, hp⟩
  dsimp only at hk hta htb hp ⊢
  repeat (first | refine walk ?_ | (refine jn ?_; (try intro F); (first | (refine bx ?_; intro bk) | (refine stA ?_) | (apply Zae; exact PuA)); refine fin ?_) | (apply RD_W; rfl; intro bk))
  refine Zah rfl (fun hcd => ?_) (fun hcd => ?_)
  ·have hk6 : k < 6 := by
    have := of_decide_eq_true hcd
    omega
   have ht : tOk t = true := ZaP.2 (by omega)
   have kn1 := knx x hzz t ht
   have kn2 := knx newN hzn t ht
   cases hu : nxD a.rules z.eras t with
   | none =>
    rw [hu] at kn1 kn2
    dsimp only [Option.getD, Option.isSome] at kn1 kn2
    have e1 := e0
    have e2 := e2b false
    repeat (first | refine und ?_ | (apply RL_pu; rfl; exact Zq6) | (apply RD_Q; rfl; rfl; decide +kernel; rfl; rfl; exact Zxy) | refine walk1 ?_ | (refine jg ?_; (try intro F); (first | (refine ZaF (fun w' hw hO => kn1 w' hw (ZcD hZ1 (hO.of (A := rowR R1 r1 _) (by repeat' constructor)) (hO.of (A := rowZ Z1 z1 _) (by repeat' constructor)) (hO.of (A := rowL L3 l3 _) (by repeat' constructor)) (hO.of (A := rowS H1 h1 _) (by repeat' constructor)) (hO.of (A := .fact S1 (ZaQ Zs1)) (by repeat' constructor)))) ?_) | (refine ZaF (fun w' hw hO => kn2 w' hw (ZcD hZ1 (hO.of (A := rowR R1 r1 _) (by repeat' constructor)) (hO.of (A := rowZ Z1 z1 _) (by repeat' constructor)) (hO.of (A := rowL L3 l3 _) (by repeat' constructor)) (hO.of (A := rowS H1 h1 _) (by repeat' constructor)) (hO.of (A := .fact S1 (ZaQ Zs1)) (by repeat' constructor)))) ?_) | (refine bx ?_; intro bk) | (refine stA ?_)); first | refine ⟨_, EndsA, ZxQ, ?_⟩ | refine fin ?_) | (refine jn ?_; (try intro F); (first | (refine bx ?_; intro bk) | (refine stA ?_) | (apply Zae; first | exact Zq6 | exact PuA)); first | refine ⟨_, EndsA, ZxQ, ?_⟩ | refine fin ?_) | (apply RD_W; rfl; intro bk))
    exact ⟨rfl, SFA, SOA⟩
   | some u =>
    rw [hu] at kn1 kn2
    dsimp only [Option.getD, Option.isSome] at kn1 kn2
    have hut := (hY.nx_lt (t := t) (by omega) (by omega) hu).1
    have hub := hY.nx_up (t := t) (by omega) (by omega) hu
    have e1 : (!decide (u = u)) = false := by rw [decide_eq_true rfl]; rfl
    have e2 := e2b true
    have ke1 := ker (t - 1) (ZaP.2 (by omega))
    have ke2 := ker u (ZaP.2 (by omega))
    have htwo : t ≠ t0 -> Za9 a.rules z.eras (t - 1) = Za9 a.rules z.eras u -> 144000 < u - t := fun h1 h2 => by
     rcases hp with hp | ⟨p, p0, p1, p2⟩
     ·exact absurd hp h1
     ·exact hY.two (p := p) (by omega) (by omega) p2 hu h2
    have hnew : k + 1 <= 6 /\ t0 <= u /\ u <= 10000000000 + 50000000 * ((k + 1 : Nat) : Int) /\ (u = t0 \/ ∃ p, t0 <= p /\ p <= u /\ nxD a.rules z.eras p = some u) := ⟨by omega, by omega, by omega, .inr ⟨t, hta, by omega, hu⟩⟩
    clear knx ker hp hzz hzn
    by_cases g1 : t = t0
    ·have q1 : (!decide (t = t0)) = false := by rw [decide_eq_true g1]; rfl
     repeat (first | refine und ?_ | (apply RL_pu; rfl; exact Zoa) | (apply RD_Q; rfl; rfl; decide +kernel; rfl; rfl; exact Zxx) | refine walk1 ?_ | (refine jg ?_; (try intro F); (first | (refine ZaF (fun w' hw hO => kn1 w' hw (ZcD hZ1 (hO.of (A := rowR R1 r1 _) (by repeat' constructor)) (hO.of (A := rowZ Z1 z1 _) (by repeat' constructor)) (hO.of (A := rowL L3 l3 _) (by repeat' constructor)) (hO.of (A := rowS H1 h1 _) (by repeat' constructor)) (hO.of (A := .fact S1 (ZaQ Zs1)) (by repeat' constructor)))) ?_) | (refine ZaF (fun w' hw hO => kn2 w' hw (ZcD hZ1 (hO.of (A := rowR R1 r1 _) (by repeat' constructor)) (hO.of (A := rowZ Z1 z1 _) (by repeat' constructor)) (hO.of (A := rowL L3 l3 _) (by repeat' constructor)) (hO.of (A := rowS H1 h1 _) (by repeat' constructor)) (hO.of (A := .fact S1 (ZaQ Zs1)) (by repeat' constructor)))) ?_) | (refine ZaF (fun w' hw hO => ke1 w' hw (ZcD hZ1 (hO.of (A := rowR R1 r1 _) (by repeat' constructor)) (hO.of (A := rowZ Z1 z1 _) (by repeat' constructor)) (hO.of (A := rowL L3 l3 _) (by repeat' constructor)) (hO.of (A := rowS H1 h1 _) (by repeat' constructor)) (hO.of (A := .fact S1 (ZaQ Zs1)) (by repeat' constructor)))) ?_) | (refine ZaF (fun w' hw hO => ke2 w' hw (ZcD hZ1 (hO.of (A := rowR R1 r1 _) (by repeat' constructor)) (hO.of (A := rowZ Z1 z1 _) (by repeat' constructor)) (hO.of (A := rowL L3 l3 _) (by repeat' constructor)) (hO.of (A := rowS H1 h1 _) (by repeat' constructor)) (hO.of (A := .fact S1 (ZaQ Zs1)) (by repeat' constructor)))) ?_) | (refine Zac hat ?_) | (refine bx ?_; intro bk) | (refine stA ?_)); first | refine ⟨_, EndsA, ZxP, ?_⟩ | refine fin ?_) | (refine jn ?_; (try intro F); (first | (refine bx ?_; intro bk) | (refine stA ?_) | (apply Zae; first | exact Zoa | exact PuA)); first | refine ⟨_, EndsA, ZxP, ?_⟩ | refine fin ?_) | (apply RD_W; rfl; intro bk))
     exact ⟨⟨k + 1, u⟩, by dsimp only; omega, hnew, SFA, SOA⟩
    ·have q1 : (!decide (t = t0)) = true := by rw [decide_eq_false g1]; rfl
     by_cases g2 : Za9 a.rules z.eras (t - 1) = Za9 a.rules z.eras u
     ·have g3 := htwo g1 g2
      have q2 : decide ((Za9 a.rules z.eras (t - 1) : Int) = (Za9 a.rules z.eras u : Int)) = true := decide_eq_true (by rw [g2])
      have q3 : decide (u - t <= 144000) = false := decide_eq_false (by omega)
      repeat (first | refine und ?_ | (apply RL_pu; rfl; exact Zva) | (apply RD_Q; rfl; rfl; decide +kernel; rfl; rfl; exact Zxw) | refine walk1 ?_ | (refine jg ?_; (try intro F); (first | (refine ZaF (fun w' hw hO => kn1 w' hw (ZcD hZ1 (hO.of (A := rowR R1 r1 _) (by repeat' constructor)) (hO.of (A := rowZ Z1 z1 _) (by repeat' constructor)) (hO.of (A := rowL L3 l3 _) (by repeat' constructor)) (hO.of (A := rowS H1 h1 _) (by repeat' constructor)) (hO.of (A := .fact S1 (ZaQ Zs1)) (by repeat' constructor)))) ?_) | (refine ZaF (fun w' hw hO => kn2 w' hw (ZcD hZ1 (hO.of (A := rowR R1 r1 _) (by repeat' constructor)) (hO.of (A := rowZ Z1 z1 _) (by repeat' constructor)) (hO.of (A := rowL L3 l3 _) (by repeat' constructor)) (hO.of (A := rowS H1 h1 _) (by repeat' constructor)) (hO.of (A := .fact S1 (ZaQ Zs1)) (by repeat' constructor)))) ?_) | (refine ZaF (fun w' hw hO => ke1 w' hw (ZcD hZ1 (hO.of (A := rowR R1 r1 _) (by repeat' constructor)) (hO.of (A := rowZ Z1 z1 _) (by repeat' constructor)) (hO.of (A := rowL L3 l3 _) (by repeat' constructor)) (hO.of (A := rowS H1 h1 _) (by repeat' constructor)) (hO.of (A := .fact S1 (ZaQ Zs1)) (by repeat' constructor)))) ?_) | (refine ZaF (fun w' hw hO => ke2 w' hw (ZcD hZ1 (hO.of (A := rowR R1 r1 _) (by repeat' constructor)) (hO.of (A := rowZ Z1 z1 _) (by repeat' constructor)) (hO.of (A := rowL L3 l3 _) (by repeat' constructor)) (hO.of (A := rowS H1 h1 _) (by repeat' constructor)) (hO.of (A := .fact S1 (ZaQ Zs1)) (by repeat' constructor)))) ?_) | (refine Zac hat ?_) | (refine bx ?_; intro bk) | (refine stA ?_)); first | refine ⟨_, EndsA, ZxO, ?_⟩ | refine fin ?_) | (refine jn ?_; (try intro F); (first | (refine bx ?_; intro bk) | (refine stA ?_) | (apply Zae; first | exact Zva | exact PuA)); first | refine ⟨_, EndsA, ZxO, ?_⟩ | refine fin ?_) | (apply RD_W; rfl; intro bk))
      exact ⟨⟨k + 1, u⟩, by dsimp only; omega, hnew, SFA, SOA⟩
     ·have q2 : decide ((Za9 a.rules z.eras (t - 1) : Int) = (Za9 a.rules z.eras u : Int)) = false := decide_eq_false (by omega)
      repeat (first | refine und ?_ | (apply RL_pu; rfl; exact Zu9) | (apply RD_Q; rfl; rfl; decide +kernel; rfl; rfl; exact Zxv) | refine walk1 ?_ | (refine jg ?_; (try intro F); (first | (refine ZaF (fun w' hw hO => kn1 w' hw (ZcD hZ1 (hO.of (A := rowR R1 r1 _) (by repeat' constructor)) (hO.of (A := rowZ Z1 z1 _) (by repeat' constructor)) (hO.of (A := rowL L3 l3 _) (by repeat' constructor)) (hO.of (A := rowS H1 h1 _) (by repeat' constructor)) (hO.of (A := .fact S1 (ZaQ Zs1)) (by repeat' constructor)))) ?_) | (refine ZaF (fun w' hw hO => kn2 w' hw (ZcD hZ1 (hO.of (A := rowR R1 r1 _) (by repeat' constructor)) (hO.of (A := rowZ Z1 z1 _) (by repeat' constructor)) (hO.of (A := rowL L3 l3 _) (by repeat' constructor)) (hO.of (A := rowS H1 h1 _) (by repeat' constructor)) (hO.of (A := .fact S1 (ZaQ Zs1)) (by repeat' constructor)))) ?_) | (refine ZaF (fun w' hw hO => ke1 w' hw (ZcD hZ1 (hO.of (A := rowR R1 r1 _) (by repeat' constructor)) (hO.of (A := rowZ Z1 z1 _) (by repeat' constructor)) (hO.of (A := rowL L3 l3 _) (by repeat' constructor)) (hO.of (A := rowS H1 h1 _) (by repeat' constructor)) (hO.of (A := .fact S1 (ZaQ Zs1)) (by repeat' constructor)))) ?_) | (refine ZaF (fun w' hw hO => ke2 w' hw (ZcD hZ1 (hO.of (A := rowR R1 r1 _) (by repeat' constructor)) (hO.of (A := rowZ Z1 z1 _) (by repeat' constructor)) (hO.of (A := rowL L3 l3 _) (by repeat' constructor)) (hO.of (A := rowS H1 h1 _) (by repeat' constructor)) (hO.of (A := .fact S1 (ZaQ Zs1)) (by repeat' constructor)))) ?_) | (refine Zac hat ?_) | (refine bx ?_; intro bk) | (refine stA ?_)); first | refine ⟨_, EndsA, ZxN, ?_⟩ | refine fin ?_) | (refine jn ?_; (try intro F); (first | (refine bx ?_; intro bk) | (refine stA ?_) | (apply Zae; first | exact Zu9 | exact PuA)); first | refine ⟨_, EndsA, ZxN, ?_⟩ | refine fin ?_) | (apply RD_W; rfl; intro bk))
      exact ⟨⟨k + 1, u⟩, by dsimp only; omega, hnew, SFA, SOA⟩
  ·repeat (first | refine walk ?_ | (refine jn ?_; (try intro F); (first | (refine bx ?_; intro bk) | (refine stA ?_) | (apply Zae; exact PuA)); refine fin ?_) | (apply RD_W; rfl; intro bk))
   exact ⟨rfl, SFA, SOA⟩
 rintro fr' O' ⟨hf, hO⟩
 try apply thenQ_n
 refine Zch hf hO ?_
 clear hf hO fr' O' knx ker
 obtain ⟨c, hc, hcal⟩ := hY.all (a := t0) (b := t0 + 268435456) (by omega) (by omega) (by omega) (by omega)
 generalize tyF a.rules z.eras c [ZaD a.rules z.eras t0] = X at hcal
 obtain ⟨out, ty⟩ := X
 have ka1 := fun w' (hw : Bel w.heap.size w w') (hA : Zaj w' R1 Z1 L3 H1 r1 z1 l3 h1 a) => Zeq R1 Z1 L3 H1 r1 z1 l3 h1 a x w' (hok w' hw hA) hsum hma hzz hzi hY t0 (t0 + 268435456) (ZaP.2 (by omega)) (ZaP.2 (by omega)) hcal
 have ka2 := fun w' (hw : Bel w.heap.size w w') (hA : Zaj w' R1 Z1 L3 H1 r1 z1 l3 h1 a) => Zeq R1 Z1 L3 H1 r1 z1 l3 h1 a newN w' (hok w' hw hA) hsum hma hzn hzi hY t0 (t0 + 268435456) (ZaP.2 (by omega)) (ZaP.2 (by omega)) hcal
 have eqT : ∀ (A B : Option Addr) (c d : Nat) (w : World), RdSl w A c Zbs 2 out -> RdSl w B d Zbs 2 out -> Does Tryz.prog 16 [.slice A out.length c, .slice B out.length d] w (fun v O => v = .bool true /\ O = []) := fun A B c d w h1 h2 => by
  have := ZhU A B c d out out w h1 h2
  rwa [decide_eq_true rfl] at this
 have eqL : ∀ (A B : Option Addr) (c d : Nat) (w : World), RdSl w A c Zaf.enc 3 ty -> RdSl w B d Zaf.enc 3 ty -> Does Tryz.prog 17 [.slice A ty.length c, .slice B ty.length d] w (fun v O => v = .bool true /\ O = []) := fun A B c d w h1 h2 => by
  have := Ze6 A B c d ty ty w h1 h2
  rwa [decide_eq_true rfl] at this
 clear hcal hc hzz hzn hok hma hsml hlk hacc hY
 repeat (first | refine und ?_ | (apply RL_pu; rfl; exact Zlb) | (apply RD_Q; rfl; rfl; decide +kernel; rfl; rfl; exact ZuJ) | refine walk1 ?_ | (refine jg ?_; (try intro F); (first | (refine Zac hat ?_) | (apply Zag (h := fun w' hw hO => ka1 w' hw (ZcD hZ1 (hO.of (A := rowR R1 r1 _) (by repeat' constructor)) (hO.of (A := rowZ Z1 z1 _) (by repeat' constructor)) (hO.of (A := rowL L3 l3 _) (by repeat' constructor)) (hO.of (A := rowS H1 h1 _) (by repeat' constructor)) (hO.of (A := .fact S1 (ZaQ Zs1)) (by repeat' constructor)))); rfl; rintro v O' ⟨Ao, co, At, ct, rfl, rfl⟩) | (refine bx ?_; intro bk) | (refine stA ?_)); first | refine ⟨_, EndsA, Zq3, ?_⟩ | refine fin ?_) | (refine jn ?_; (try intro F); (first | (refine bx ?_; intro bk) | (refine stA ?_) | (apply Zae; first | exact Zlb | exact PuA)); first | refine ⟨_, EndsA, Zq3, ?_⟩ | refine fin ?_) | (apply RD_W; rfl; intro bk))
 repeat (first | refine und ?_ | refine walk ?_ | (refine jg ?_; (try intro F); (first | (refine Zac hat ?_) | (apply Zag (h := fun w' hw hO => ka2 w' hw (ZcD hZ1 (hO.of (A := rowR R1 r1 _) (by repeat' constructor)) (hO.of (A := rowZ Z1 z1 _) (by repeat' constructor)) (hO.of (A := rowL L3 l3 _) (by repeat' constructor)) (hO.of (A := rowS H1 h1 _) (by repeat' constructor)) (hO.of (A := .fact S1 (ZaQ Zs1)) (by repeat' constructor)))); rfl; rintro v O' ⟨Bo, do_, Bt, dt_, rfl, rfl⟩) | (refine bx ?_; intro bk) | (refine stA ?_)); refine fin ?_) | (refine jn ?_; (try intro F); (first | (refine bx ?_; intro bk) | (refine stA ?_) | (apply Zae; exact PuA)); refine fin ?_) | (apply RD_W; rfl; intro bk))
 repeat (first | refine und ?_ | (apply RL_pu; rfl; exact PuWaL5) | (apply RD_Q; rfl; rfl; decide +kernel; rfl; rfl; exact QyWaL5) | refine walk1 ?_ | (refine jg ?_; (try intro F); (first | (refine ZaF (fun w' _ hO => eqT Ao Bo co do_ w' (ZaW Zbs.len (hO.of (A := .row (.slice Ao out.length co) _ _ _ _) (by repeat' constructor))) (ZaW Zbs.len (hO.of (A := .row (.slice Bo out.length do_) _ _ _ _) (by repeat' constructor)))) ?_) | (refine ZaF (fun w' _ hO => eqL At Bt ct dt_ w' (ZaW Zaf.len (hO.of (A := .row (.slice At ty.length ct) _ _ _ _) (by repeat' constructor))) (ZaW Zaf.len (hO.of (A := .row (.slice Bt ty.length dt_) _ _ _ _) (by repeat' constructor)))) ?_) | (refine Zac hwk ?_) | (refine bx ?_; intro bk) | (refine stA ?_)); first | refine ⟨_, EndsA, QFWaL5, ?_⟩ | refine fin ?_) | (refine jn ?_; (try intro F); (first | (refine bx ?_; intro bk) | (refine stA ?_) | (apply Zae; first | exact PuWaL5 | exact PuA)); first | refine ⟨_, EndsA, QFWaL5, ?_⟩ | refine fin ?_) | (apply RD_W; rfl; intro bk))
 exact rtA
end Go.Proofs.YtpcpmndldgejiaaGreatDoor
