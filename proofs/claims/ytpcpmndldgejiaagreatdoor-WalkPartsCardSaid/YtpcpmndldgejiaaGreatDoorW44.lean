/- Parts of the proof. -/
import Derived.Test.YtpcpmndldgejiaaGreatDoorW29
import Derived.Test.YtpcpmndldgejiaaGreatDoorW28
import Derived.Test.YtpcpmndldgejiaaGreatDoorW14
import Derived.Test.YtpcpmndldgejiaaGreatDoorRows
import Derived.LaidSub
import Derived.SevenTiedAt
import Derived.JoinedOf
import Derived.KernelRfl
set_option maxHeartbeats 4000000
set_option linter.unusedVariables false
set_option linter.unusedSimpArgs false
namespace Go.Proofs.YtpcpmndldgejiaaGreatDoor
open Go Go.RowKit Go.Wk
attribute [local irreducible] W RL Does Zay Zam retQ Calls Pu Stp RD Qy Ay Zan RLI WI Pre Zap
structure PtG where
 i : Nat
 m : Nat
 top : Int
def usB (m N : Nat) : List Value := (List.range N).map fun j => .bool (decide (j < m))
theorem ZdL (m N : Nat) : (usB m N).length = N := by simp [usB]
theorem Zlm {m N j : Nat} (h : j < N) : (usB m N)[j]? = some (.bool (decide (j < m))) := by
 unfold usB
 rw [List.getElem?_map, List.getElem?_range h]
 rfl
theorem Zg9 {m m' N j : Nat} (hj : j < N) (h : (j < m /\ m' = m) \/ (j = m /\ m' = m + 1)) : lay (usB m N) ((j : Int).toNat * 1) [.bool true] = usB m' N := by
 rw [show (j : Int).toNat * 1 = j by simp]
 show (usB m N).set j (.bool true) = usB m' N
 refine List.ext_getElem? fun k => ?_
 by_cases hk : k < N
 ·rw [Zlm hk, List.getElem?_set]
  by_cases hjk : j = k
  ·subst hjk
   rw [if_pos rfl, if_pos (by rw [ZdL]; exact hk), decide_eq_true (by omega)]
  ·rw [if_neg hjk, Zlm hk, decide_eq_decide.2 (show k < m ↔ k < m' by omega)]
 ·rw [List.getElem?_eq_none (by rw [List.length_set, ZdL]; omega), List.getElem?_eq_none (by rw [ZdL]; omega)]
theorem ZzJ (N : Nat) : (madeCells ([.bool false] : List Value).toArray (N * 1)).toList = usB 0 N := by
 refine List.ext_getElem? fun k => ?_
 by_cases hk : k < N
 ·rw [Zlm hk]
  simp [madeCells, hk, Nat.mod_one]
 ·rw [List.getElem?_eq_none (by rw [Array.length_toList, size_madeCells]; omega), List.getElem?_eq_none (by rw [ZdL]; omega)]
theorem Zu0 {P : Program} {n : Nat} {wr : World} {fr : Fr} {O : List It} {ty : TypeId} {x y : Operand} {ts : Array TypeId} {k : IntKind} {i j q : Int} (hx : ev fr x = some (.int k i)) (hy : ev fr y = some (.int k j)) (hq : (if i < j then j else i) = q) : Pu P n wr fr O (.call ⟨.builtin .max, #[x, y], ts⟩) ty (.int k q) := hq ▸ Zu1 hx hy
theorem ZvX {rs : List Zaa} {l : List DEra} (c : List Int) (x : Zaf) (k : Nat) : 1 <= (tyTo rs l c [x] k).length := by
 obtain ⟨_, ⟨more, hm⟩, _⟩ := Zdy rs l (c.take k) [x] (ZiM x)
 unfold tyTo
 rw [hm]
 simp
theorem ZxY {G : Prop} (h : G := by (apply Pu_remE; rfl; rfl; omega; decide)) : G := h
theorem ZxX {G : Prop} (h : G := by (first | (apply ZaE; rfl; rfl; first | exact e0 | exact e1) | (apply ZaG; rfl; rfl; exact e5) | (apply Pu_indexAddr; rfl; rfl; omega; omega; exact Option.some_ne_none (⟨bU, 0, none⟩ : Addr)))) : G := h
theorem Zu8 {G : Prop} (h : G := by (first | (apply Zav; rfl; rfl; omega; omega; (intro w' _ hO; exact Zbp (hO.of (A := .row (.slice Az' zO.length cz') _ _ _ _) (by repeat' constructor)) (by omega))) | (apply Za6 (vs := [.int .i64 u, .int .i64 (j : Int)]); rfl; (focus repeat' constructor); exact hfz; rfl) | (apply Zbi; rfl; rfl; first | exact d1 | exact d4) | (apply Zcv; rfl; rfl; first | exact d2 | exact d5 | exact d7) | (apply ZaN; rfl; rfl; exact d3) | (apply Zu0; rfl; rfl; exact hmx) | (apply Pu_indexAddr; rfl; rfl; omega; omega; exact Option.some_ne_none (⟨bU, 0, none⟩ : Addr)) | (apply Zav; rfl; rfl; omega; omega; (intro w' _ hO; exact Zbp (hO.of (A := .row (.slice Ax xO.length cx) _ _ _ _) (by repeat' constructor)) (by omega))) | (apply Zav; rfl; rfl; omega; omega; (intro w' _ hO; exact Zbp (hO.of (A := .row (.slice Ap xT.length cp) _ _ _ _) (by repeat' constructor)) (by omega))) | (apply Zav; rfl; rfl; omega; omega; (intro w' _ hO; exact Zbp (hO.of (A := .row (.slice Ar rT.length cr) _ _ _ _) (by repeat' constructor)) (by omega))) | (apply Zcj; rfl; (focus repeat' constructor); exact hfp0) | (apply Zcj; rfl; (focus repeat' constructor); exact hfp1) | (apply Za6 (vs := [.int .i64 x1, .bool x2, .string x3]); rfl; (focus repeat' constructor); exact hft; rfl) | (apply Za6 (vs := [.int .i64 x1, .bool x2, .string x3]); rfl; (focus repeat' constructor); exact hfr; rfl) | (apply ZaE; rfl; rfl; exact d6) | (apply Zhz (i := (⟨x1, x2, x3⟩ : Zaf)) (j := ⟨x1, x2, x3⟩) (enc := Zaf.enc); rfl; rfl; exact n2))) : G := h
theorem Zxu {G : Prop} (h : G := by first | (apply Qy_y; rfl; exact Zu8) | exact QyA) : G := h
theorem ZAt {G : Prop} (h : G := by repeat (first | exact QF.nil | (apply QF.mk; rfl; rfl; decide +kernel; exact Zxu))) : G := h
theorem Zu7 {G : Prop} (h : G := by (first | (apply Zav; rfl; rfl; omega; omega; (intro w' _ hO; exact Zbp (hO.of (A := .row (.slice Az' zO.length cz') _ _ _ _) (by repeat' constructor)) (by omega))) | (apply Za6 (vs := [.int .i64 u, .int .i64 (j : Int)]); rfl; (focus repeat' constructor); exact hfz; rfl) | (apply Zbi; rfl; rfl; first | exact d1 | exact d4) | (apply Zcv; rfl; rfl; first | exact d2 | exact d5 | exact d7) | (apply ZaN; rfl; rfl; exact d3) | (apply Zu0; rfl; rfl; exact hmx) | (apply Pu_indexAddr; rfl; rfl; omega; omega; exact Option.some_ne_none (⟨bU, 0, none⟩ : Addr)) | (apply Zav; rfl; rfl; omega; omega; (intro w' _ hO; exact Zbp (hO.of (A := .row (.slice Ay' yO.length cy) _ _ _ _) (by repeat' constructor)) (by omega))) | (apply Zav; rfl; rfl; omega; omega; (intro w' _ hO; exact Zbp (hO.of (A := .row (.slice Aq yT.length cq) _ _ _ _) (by repeat' constructor)) (by omega))) | (apply Zav; rfl; rfl; omega; omega; (intro w' _ hO; exact Zbp (hO.of (A := .row (.slice Ar rT.length cr) _ _ _ _) (by repeat' constructor)) (by omega))) | (apply Zcj; rfl; (focus repeat' constructor); exact hfp0) | (apply Zcj; rfl; (focus repeat' constructor); exact hfp1) | (apply Za6 (vs := [.int .i64 x1, .bool x2, .string x3]); rfl; (focus repeat' constructor); exact hft; rfl) | (apply Za6 (vs := [.int .i64 x1, .bool x2, .string x3]); rfl; (focus repeat' constructor); exact hfr; rfl) | (apply ZaE; rfl; rfl; exact d6) | (apply Zhz (i := (⟨x1, x2, x3⟩ : Zaf)) (j := ⟨x1, x2, x3⟩) (enc := Zaf.enc); rfl; rfl; exact n2))) : G := h
theorem Zxt {G : Prop} (h : G := by first | (apply Qy_y; rfl; exact Zu7) | exact QyA) : G := h
theorem ZAs {G : Prop} (h : G := by repeat (first | exact QF.nil | (apply QF.mk; rfl; rfl; decide +kernel; exact Zxt))) : G := h
theorem ZxW {G : Prop} (h : G := by (first | (apply Pu_indexAddr; rfl; rfl; omega; omega; exact Option.some_ne_none (⟨bU, 0, none⟩ : Addr)) | (apply Zav; rfl; rfl; omega; omega; (intro w' _ hO; exact Zbp (hO.of (A := .row (.slice Ar rT.length cr) _ _ _ _) (by repeat' constructor)) (by omega))) | (apply Zim; rfl; (focus repeat' constructor); exact hus) | (apply Za6 (vs := [.int .i64 p1, .bool p2, .string p3]); rfl; (focus repeat' constructor); exact hfp; rfl) | (apply ZaE; rfl; rfl; exact d8))) : G := h
set_option maxHeartbeats 8000000 in
set_option maxRecDepth 20000 in
theorem Zj0 (As Az Al : Option Addr) (cs cz cl : Nat) (d : DD23) (which n a b : Int) (w : World) (hL : LibW w) (hG : Glob w) (hS : RdLL w As cs ZcH 1 d.sets) (hZ : RdLL w Az cz E23.enc 8 d.zones) (hD : RdSl w Al cl ZcH 1 d.links) (hrs : ∀ l ∈ d.sets, ∀ x ∈ l, inR .u8 x) (hrz : ∀ l ∈ d.zones, ∀ x ∈ l, x.ok) (hrl : ∀ x ∈ d.links, inR .u8 x) (hwh : inR .u8 which) (hnn : inR .u64 n) (haa : inR .u32 a) (hbb : inR .u32 b) :
  Does Tryz.prog 3 [d23V As Az Al cs cz cl d, .int .u8 which, .int .u64 n, .int .u32 a, .int .u32 b] w (fun v O => v = .bool true /\ O = []) := by
 have hwk := fun w' (hw : Bel w.heap.size w w') => Zdw w' (hL.up hw) (hG.up hw)
 have hpk := fun w' (hw : Bel w.heap.size w w') => ZiJ As Az Al cs cz cl d which w' (hS.up hw) (hZ.up hw) (hD.up hw) hrs hrz hrl hwh
 have hm := mn23 d
 have hsm := ZbU d
 have hzs := ZaX d
 have h12 := Ztm d
 have hnm23 := fun x => nm23 d (x := x)
 unfold PkR at hpk
 generalize Zap d = s at *
 have hn2 : 0 <= n /\ n <= 18446744073709551615 := ZoX.1 hnn
 have ha2 : 0 <= a /\ a <= 4294967295 := ZlI.1 haa
 have hb2 : 0 <= b /\ b <= 4294967295 := ZlI.1 hbb
 have hat := fun w' (hw : Bel w.heap.size w w') => ZjG n w' (hG.up hw) hn2
 have hT := Zuq hn2.1
 generalize atT n = t at *
 obtain ⟨tm, htm⟩ : ∃ tm, t + a % 473354280 = tm := ⟨_, rfl⟩
 obtain ⟨te, hte⟩ : ∃ te, tm + b % 473354280 = te := ⟨_, rfl⟩
 have hm0 := Int.emod_nonneg a (b := 473354280) (by decide)
 have hm1 := Int.emod_lt_of_pos a (b := 473354280) (by decide)
 have hm2 := Int.emod_nonneg b (b := 473354280) (by decide)
 have hm3 := Int.emod_lt_of_pos b (b := 473354280) (by decide)
 refine Zab Tryz.func3 rfl rfl rfl rfl ?_
 repeat (first | (apply RL_pu; rfl; exact ZxY) | (apply RD_Q; rfl; rfl; decide +kernel; rfl; rfl; exact QyWaN0) | refine walk1 ?_ | (refine jg ?_; (try intro F); (first | (apply Zag (h := fun w' hw _ => hpk w' hw); rfl; rintro v O' ⟨R, Z, L, H, r, z, l, h, S, name, rfl, hnm, rfl⟩) | (refine Zac hat ?_) | (refine bx ?_; intro bk) | (refine stA ?_)); first | refine ⟨_, EndsA, QFWaN0, ?_⟩ | refine fin ?_) | (refine jn ?_; (try intro F); (first | (refine bx ?_; intro bk) | (refine stA ?_) | (apply Zae; first | exact ZxY | exact PuA)); first | refine ⟨_, EndsA, QFWaN0, ?_⟩ | refine fin ?_) | (apply RD_W; rfl; intro bk))
 rw [htm, hte]
 obtain ⟨i, zz, hzd, hzi, _⟩ := hnm23 name hnm
 obtain ⟨Y, hY⟩ := hzs zz (List.mem_of_getElem? hzi)
 have hacc := fun w' (hw : Bel w.heap.size w w') (hA : Zaj w' R Z L H r z l h s) => hsm.acc (hL.up hw) (hG.up hw) hA
 obtain ⟨c1, hc1, hal1⟩ := hY.all (a := t) (b := tm) (by omega) (by omega) (by omega) (by omega)
 obtain ⟨c2, hc2, hal2⟩ := hY.all (a := tm) (b := te) (by omega) (by omega) (by omega) (by omega)
 obtain ⟨c, hc3, hal3⟩ := hY.all (a := t) (b := te) (by omega) (by omega) (by omega) (by omega)
 obtain rfl := hc3.uniq (hc1.app hc2 (by omega) (by omega))
 obtain ⟨l0, hl0⟩ : ∃ x, ZaD s.rules zz.eras t = x := ⟨_, rfl⟩
 obtain ⟨l1, hl1⟩ : ∃ x, ZaD s.rules zz.eras tm = x := ⟨_, rfl⟩
 rw [hl0] at hal1 hal3
 rw [hl1] at hal2
 have kx := fun w' (hw : Bel w.heap.size w w') hA => Zeq R Z L H r z l h s name w' (hacc w' hw hA) (by omega) hm hzd hzi hY t tm (ZaP.2 (by omega)) (ZaP.2 (by omega)) hal1
 have ky := fun w' (hw : Bel w.heap.size w w') hA => Zeq R Z L H r z l h s name w' (hacc w' hw hA) (by omega) hm hzd hzi hY tm te (ZaP.2 (by omega)) (ZaP.2 (by omega)) hal2
 have kz := fun w' (hw : Bel w.heap.size w w') hA => Zeq R Z L H r z l h s name w' (hacc w' hw hA) (by omega) hm hzd hzi hY t te (ZaP.2 (by omega)) (ZaP.2 (by omega)) hal3
 obtain ⟨ox, tx⟩ := Zil hal1
 obtain ⟨oy, ty⟩ := Zil hal2
 obtain ⟨oz, tz⟩ := Zil hal3
 have lx := ZfY s.rules zz.eras c1 [l0]
 have ly := ZfY s.rules zz.eras c2 [l1]
 have lz := ZfY s.rules zz.eras (c1 ++ c2) [l0]
 rw [List.length_append] at lz
 obtain ⟨_, _, sx⟩ := Zdy s.rules zz.eras c1 [l0] (ZiM _)
 obtain ⟨_, _, sy⟩ := Zdy s.rules zz.eras c2 [l1] (ZiM _)
 obtain ⟨nz, ⟨more, mz⟩, _⟩ := Zdy s.rules zz.eras (c1 ++ c2) [l0] (ZiM _)
 have az := fun k u (hk : (c1 ++ c2)[k]? = some u) => ZyC (rs := s.rules) (l := zz.eras) hk (ZiM l0)
 have le := ZyB (rs := s.rules) (l := zz.eras) (c1 ++ c2) (ZiM l0)
 have pos := ZvX (rs := s.rules) (l := zz.eras) (c1 ++ c2) l0
 have m0 : (tyTo s.rules zz.eras (c1 ++ c2) [l0] 0).length = 1 := by rw [ZzL]; rfl
 have mN : (tyTo s.rules zz.eras (c1 ++ c2) [l0] (c1 ++ c2).length).length = (tyF s.rules zz.eras (c1 ++ c2) [l0]).2.length := by rw [ZvY]
 rw [List.length_append] at mN
 generalize tyF s.rules zz.eras c1 [l0] = X at *
 generalize tyF s.rules zz.eras c2 [l1] = V at *
 generalize tyF s.rules zz.eras (c1 ++ c2) [l0] = U at *
 obtain ⟨xO, xT⟩ := X
 obtain ⟨yO, yT⟩ := V
 obtain ⟨zO, rT⟩ := U
 dsimp only at ox tx oy ty oz tz lx ly lz sx sy nz mz az le mN kx ky kz
 have rl : 1 <= rT.length := by rw [mz]; simp
 have e0 : (!decide ((0 : Int) = 0)) = false := rfl
 have e1 : (!decide ((zO.length : Int) = (xO.length : Int) + (yO.length : Int))) = false := by rw [decide_eq_true (by omega)]; rfl
 have e5 : decide ((rT.length : Int) = 0) = false := decide_eq_false (by omega)
 clear hal1 hal2 hal3 hc1 hc2 hc3
 repeat (first | refine und ?_ | refine walk ?_ | (refine jg ?_; (try intro F); (first | (apply Zag (h := fun w' hw hO => kx w' hw (ZaA (hO.of (A := .fact S _) (by repeat' constructor)))); rfl; rintro v O' ⟨Ax, cx, Ap, cp, rfl, rfl⟩) | (refine bx ?_; intro bk) | (refine stA ?_)); refine fin ?_) | (refine jn ?_; (try intro F); (first | (refine bx ?_; intro bk) | (refine stA ?_) | (apply Zae; exact PuA)); refine fin ?_) | (apply RD_W; rfl; intro bk))
 repeat (first | refine und ?_ | refine walk ?_ | (refine jg ?_; (try intro F); (first | (apply Zag (h := fun w' hw hO => ky w' hw (ZaA (hO.of (A := .fact S _) (by repeat' constructor)))); rfl; rintro v O' ⟨Ay', cy, Aq, cq, rfl, rfl⟩) | (refine bx ?_; intro bk) | (refine stA ?_)); refine fin ?_) | (refine jn ?_; (try intro F); (first | (refine bx ?_; intro bk) | (refine stA ?_) | (apply Zae; exact PuA)); refine fin ?_) | (apply RD_W; rfl; intro bk))
 repeat (first | refine und ?_ | (apply RL_pu; rfl; exact ZxX) | (refine js ?_; (first | (apply Zag (h := fun w' hw hO => kz w' hw (ZaA (hO.of (A := .fact S _) (by repeat' constructor)))); rfl; rintro v O' ⟨Az', cz', Ar, cr, rfl, rfl⟩) | (apply ZnU (N := rT.length) (z := [.bool false]); rfl; rfl; omega; omega; (simp only [maxLen]; omega); exact ZzJ _; intro bU) | (apply ZbW; rfl; rfl; (focus repeat' constructor); rfl; rfl; rfl; (rw [ZdL]; omega); decide; exact Zg9 (m := 0) (m' := 1) (j := 0) (by omega) (.inr ⟨rfl, rfl⟩)) | (refine bx ?_; intro bk))) | (apply RD_Q; rfl; rfl; decide +kernel; rfl; rfl; exact QyWaN1) | refine walk1 ?_ | (refine ZeB ?_; intro F; (apply Zag (h := fun w' hw hO => kz w' hw (ZaA (hO.of (A := .fact S _) (by repeat' constructor)))); rfl; rintro v O' ⟨Az', cz', Ar, cr, rfl, rfl⟩); refine ⟨_, EndsA, SubO.right _ _, ?_⟩) | (refine RD_Lw ?_; intro F; (first | (apply Zag (h := fun w' hw hO => kz w' hw (ZaA (hO.of (A := .fact S _) (by repeat' constructor)))); rfl; rintro v O' ⟨Az', cz', Ar, cr, rfl, rfl⟩) | (apply ZnU (N := rT.length) (z := [.bool false]); rfl; rfl; omega; omega; (simp only [maxLen]; omega); exact ZzJ _; intro bU) | (apply ZbW; rfl; rfl; (focus repeat' constructor); rfl; rfl; rfl; (rw [ZdL]; omega); decide; exact Zg9 (m := 0) (m' := 1) (j := 0) (by omega) (.inr ⟨rfl, rfl⟩)) | (refine bx ?_; intro bk) | (refine stA ?_) | (apply Zae; first | exact ZxX | exact PuA)); refine ⟨_, EndsA, QFWaN1, ?_⟩) | (apply RD_W; rfl; intro bk))
 clear kx ky kz hacc hat hpk
 refine Zaq [(16, .slice Ax xO.length cx), (17, .slice Ap xT.length cp), (19, .slice Ay' yO.length cy), (20, .slice Aq yT.length cq), (23, .slice Ar rT.length cr), (25, .slice (some ⟨bU, 0, none⟩) rT.length rT.length), (108, .slice Az' zO.length cz'), (109, .int .i64 zO.length)]
  [.row (.slice Ax xO.length cx) 45 2 xO.length (xO.flatMap Zbs), .row (.slice Ap xT.length cp) 47 3 xT.length (xT.flatMap Zaf.enc), .row (.slice Ay' yO.length cy) 45 2 yO.length (yO.flatMap Zbs), .row (.slice Aq yT.length cq) 47 3 yT.length (yT.flatMap Zaf.enc), .row (.slice Az' zO.length cz') 45 2 zO.length (zO.flatMap Zbs), .row (.slice Ar rT.length cr) 47 3 rT.length (rT.flatMap Zaf.enc)]
  (fun g : PtG => [(26, .int .i64 g.top), (110, .int .i64 g.i)]) (fun g => [.row (.slice (some ⟨bU, 0, none⟩) rT.length rT.length) 4 1 rT.length (usB g.m rT.length)])
  (fun g => g.i <= zO.length /\ g.m = (tyTo s.rules zz.eras (c1 ++ c2) [l0] g.i).length /\ g.top = (g.m : Int) - 1) (fun g => zO.length - g.i) ⟨0, 1, 0⟩ SFA SOA ⟨Nat.zero_le _, m0.symm, rfl⟩ ?_
 rintro ⟨i, m, top⟩ ⟨hi, hm', htop⟩
 dsimp only at hi hm' htop ⊢
 repeat (first | refine walk ?_ | (refine jn ?_; (try intro F); (first | (refine bx ?_; intro bk) | (refine stA ?_) | (apply Zae; exact PuA)); refine fin ?_) | (apply RD_W; rfl; intro bk))
 refine Zah rfl (fun hcd => ?_) (fun hcd => ?_)
 ·have hil : i < c1.length + c2.length := by
   have := of_decide_eq_true hcd
   omega
  obtain ⟨u, hu⟩ : ∃ u, (c1 ++ c2)[i]? = some u := ⟨_, List.getElem?_eq_getElem (by rw [List.length_append]; exact hil)⟩
  obtain ⟨j, j1, j2, j3⟩ := az i u hu
  have hjl : j < rT.length := (List.getElem?_eq_some_iff.1 j2).1
  have hp1 := pos i
  have hle := le (i + 1)
  obtain ⟨m', hmn⟩ : ∃ m', (tyTo s.rules zz.eras (c1 ++ c2) [l0] (i + 1)).length = m' := ⟨_, rfl⟩
  rw [<- hm', hmn] at j3
  rw [<- hm'] at hp1
  rw [hmn] at hle
  have hmm : (j < m /\ m' = m) \/ (j = m /\ m' = m + 1) := j3
  have hmx : (if top < (j : Int) then (j : Int) else top) = (m' : Int) - 1 := by split <;> omega
  have d1 : decide ((j : Int) < 0) = false := decide_eq_false (by omega)
  have d2 : decide ((rT.length : Int) <= (j : Int)) = false := decide_eq_false (by omega)
  have d3 : decide (top + 1 < (j : Int)) = false := decide_eq_false (by omega)
  have d6 : (!decide (u = u)) = false := by rw [decide_eq_true rfl]; rfl
  obtain ⟨Q, hQ⟩ : ∃ Q, ZaD s.rules zz.eras u = Q := ⟨_, rfl⟩
  rw [hQ] at j2
  have hsx := sx i u
  have hsy := sy (i - c1.length) u
  rw [hQ] at hsx hsy
  obtain ⟨x1, x2, x3⟩ := Q
  have n2 : (!decide ((⟨x1, x2, x3⟩ : Zaf) = ⟨x1, x2, x3⟩)) = false := by rw [decide_eq_true rfl]; rfl
  have hfz : ∀ (k : Nat) (v : Value), ([.int .i64 u, .int .i64 (j : Int)] : List Value)[k]? = some v -> (zO.flatMap Zbs)[(i : Int).toNat * 2 + k]? = some v := fun k v hk => ZaC Zbs.len zO i _ k v j1 hk
  have hfr : ∀ (k : Nat) (v : Value), ([.int .i64 x1, .bool x2, .string x3] : List Value)[k]? = some v -> (rT.flatMap Zaf.enc)[(j : Int).toNat * 3 + k]? = some v := fun k v hk => ZaC Zaf.len rT j _ k v j2 hk
  have hinv : (i + 1 <= zO.length /\ m' = (tyTo s.rules zz.eras (c1 ++ c2) [l0] (i + 1)).length /\ (m' : Int) - 1 = (m' : Int) - 1) := ⟨by omega, hmn.symm, rfl⟩
  clear az le pos sx sy j1 j2 j3 hQ mN m0 mz nz hm' hmn
  by_cases hx : i < c1.length
  ·have d7 : decide ((xO.length : Int) <= (i : Int)) = false := decide_eq_false (by omega)
   rw [List.getElem?_append_left hx] at hu
   obtain ⟨k, k1, k2⟩ := hsx hu
   have hkl : k < xT.length := (List.getElem?_eq_some_iff.1 k2).1
   have d4 : decide ((k : Int) < 0) = false := decide_eq_false (by omega)
   have d5 : decide ((xT.length : Int) <= (k : Int)) = false := decide_eq_false (by omega)
   have hfp0 : (xO.flatMap Zbs)[(i : Int).toNat * 2 + 0]? = some (.int .i64 u) := ZaC Zbs.len xO i _ 0 _ k1 rfl
   have hfp1 : (xO.flatMap Zbs)[(i : Int).toNat * 2 + 1]? = some (.int .i64 k) := ZaC Zbs.len xO i _ 1 _ k1 rfl
   have hft : ∀ (q : Nat) (v : Value), ([.int .i64 x1, .bool x2, .string x3] : List Value)[q]? = some v -> (xT.flatMap Zaf.enc)[(k : Int).toNat * 3 + q]? = some v := fun q v hq => ZaC Zaf.len xT k _ q v k2 hq
   clear hsx hsy hu k1 k2
   repeat (first | refine und ?_ | (apply RL_pu; rfl; exact Zu8) | (refine js ?_; (first | (apply ZbW; rfl; rfl; (focus repeat' constructor); rfl; rfl; rfl; (rw [ZdL]; omega); decide; exact Zg9 hjl hmm) | (refine bx ?_; intro bk))) | (apply RD_Q; rfl; rfl; decide +kernel; rfl; rfl; exact Zxu) | refine walk1 ?_ | (refine RD_Lw ?_; intro F; (first | (apply ZbW; rfl; rfl; (focus repeat' constructor); rfl; rfl; rfl; (rw [ZdL]; omega); decide; exact Zg9 hjl hmm) | (refine bx ?_; intro bk) | (refine stA ?_) | (apply Zae; first | exact Zu8 | exact PuA)); refine ⟨_, EndsA, ZAt, ?_⟩) | (apply RD_W; rfl; intro bk))
   exact ⟨⟨i + 1, m', (m' : Int) - 1⟩, by dsimp only; omega, hinv, SFA, SOA⟩
  ·have d7 : decide ((xO.length : Int) <= (i : Int)) = true := decide_eq_true (by omega)
   rw [List.getElem?_append_right (by omega)] at hu
   obtain ⟨k, k1, k2⟩ := hsy hu
   have hiy : i - c1.length < yO.length := (List.getElem?_eq_some_iff.1 k1).1
   have hkl : k < yT.length := (List.getElem?_eq_some_iff.1 k2).1
   have d4 : decide ((k : Int) < 0) = false := decide_eq_false (by omega)
   have d5 : decide ((yT.length : Int) <= (k : Int)) = false := decide_eq_false (by omega)
   have hnat : ((i : Int) - (xO.length : Int)).toNat = i - c1.length := by omega
   have hfp0 : (yO.flatMap Zbs)[((i : Int) - (xO.length : Int)).toNat * 2 + 0]? = some (.int .i64 u) := by rw [hnat]; exact ZaC Zbs.len yO _ _ 0 _ k1 rfl
   have hfp1 : (yO.flatMap Zbs)[((i : Int) - (xO.length : Int)).toNat * 2 + 1]? = some (.int .i64 k) := by rw [hnat]; exact ZaC Zbs.len yO _ _ 1 _ k1 rfl
   have hft : ∀ (q : Nat) (v : Value), ([.int .i64 x1, .bool x2, .string x3] : List Value)[q]? = some v -> (yT.flatMap Zaf.enc)[(k : Int).toNat * 3 + q]? = some v := fun q v hq => ZaC Zaf.len yT k _ q v k2 hq
   clear hsx hsy hu k1 k2
   repeat (first | refine und ?_ | (apply RL_pu; rfl; exact Zu7) | (refine js ?_; (first | (apply ZbW; rfl; rfl; (focus repeat' constructor); rfl; rfl; rfl; (rw [ZdL]; omega); decide; exact Zg9 hjl hmm) | (refine bx ?_; intro bk))) | (apply RD_Q; rfl; rfl; decide +kernel; rfl; rfl; exact Zxt) | refine walk1 ?_ | (refine RD_Lw ?_; intro F; (first | (apply ZbW; rfl; rfl; (focus repeat' constructor); rfl; rfl; rfl; (rw [ZdL]; omega); decide; exact Zg9 hjl hmm) | (refine bx ?_; intro bk) | (refine stA ?_) | (apply Zae; first | exact Zu7 | exact PuA)); refine ⟨_, EndsA, ZAs, ?_⟩) | (apply RD_W; rfl; intro bk))
   exact ⟨⟨i + 1, m', (m' : Int) - 1⟩, by dsimp only; omega, hinv, SFA, SOA⟩
 ·obtain rfl : i = zO.length := by
   have := of_decide_eq_false hcd
   omega
  have hmr : m = rT.length := by rw [hm', lz, mN]
  subst hmr
  clear az le pos sx sy mN m0 mz hm'
  repeat (first | refine walk ?_ | (refine jn ?_; (try intro F); (first | (refine bx ?_; intro bk) | (refine stA ?_) | (apply Zae; exact PuA)); refine fin ?_) | (apply RD_W; rfl; intro bk))
  refine Zaq [(25, .slice (some ⟨bU, 0, none⟩) rT.length rT.length), (23, .slice Ar rT.length cr), (195, .slice Ar rT.length cr), (196, .int .i64 rT.length)] [.row (.slice (some ⟨bU, 0, none⟩) rT.length rT.length) 4 1 rT.length (usB rT.length rT.length), .row (.slice Ar rT.length cr) 47 3 rT.length (rT.flatMap Zaf.enc)] (fun k : Nat => [(197, .int .i64 k)]) (fun _ => []) (fun k => k <= rT.length) (fun k => rT.length - k) 0 SFA SOA (Nat.zero_le _) ?_
  intro k hk
  repeat (first | refine walk ?_ | (refine jn ?_; (try intro F); (first | (refine bx ?_; intro bk) | (refine stA ?_) | (apply Zae; exact PuA)); refine fin ?_) | (apply RD_W; rfl; intro bk))
  refine Zah rfl (fun hce => ?_) (fun hce => ?_)
  ·have hkl : k < rT.length := by
    have := of_decide_eq_true hce
    omega
   obtain ⟨p, hp⟩ : ∃ p, rT[k]? = some p := ⟨_, List.getElem?_eq_getElem hkl⟩
   have hix := fun w' hA => Zni Ar cr rT p w' hA
   rw [Zjh rT 0 k p nz hp, Nat.zero_add] at hix
   obtain ⟨p1, p2, p3⟩ := p
   simp only [Zaf.enc] at hix
   have hfp : ∀ (q : Nat) (v : Value), ([.int .i64 p1, .bool p2, .string p3] : List Value)[q]? = some v -> (rT.flatMap Zaf.enc)[(k : Int).toNat * 3 + q]? = some v := fun q v hq => ZaC Zaf.len rT k _ q v hp hq
   have hus : (usB rT.length rT.length)[(k : Int).toNat * 1]? = some (.bool true) := by rw [show (k : Int).toNat * 1 = k by simp, Zlm hkl, decide_eq_true hkl]
   have d8 : (!decide ((k : Int) = (k : Int))) = false := by rw [decide_eq_true rfl]; rfl
   clear nz hp
   repeat (first | refine und ?_ | (apply RL_pu; rfl; exact ZxW) | (apply RD_Q; rfl; rfl; decide +kernel; rfl; rfl; exact QyWaN4) | refine walk1 ?_ | (refine jg ?_; (try intro F); (first | (refine ZaF (fun w' _ hO => hix w' (ZaW Zaf.len (hO.of (A := .row (.slice Ar rT.length cr) _ _ _ _) (by repeat' constructor)))) ?_) | (refine bx ?_; intro bk) | (refine stA ?_)); first | refine ⟨_, EndsA, QFWaN4, ?_⟩ | refine fin ?_) | (refine jn ?_; (try intro F); (first | (refine bx ?_; intro bk) | (refine stA ?_) | (apply Zae; first | exact ZxW | exact PuA)); first | refine ⟨_, EndsA, QFWaN4, ?_⟩ | refine fin ?_) | (apply RD_W; rfl; intro bk))
   exact ⟨k + 1, by omega, by omega, SFA, SOA⟩
  ·repeat (first | refine walk ?_ | (refine jg ?_; (try intro F); (first | (refine Zac hwk ?_) | (refine bx ?_; intro bk) | (refine stA ?_)); refine fin ?_) | (refine jn ?_; (try intro F); (first | (refine bx ?_; intro bk) | (refine stA ?_) | (apply Zae; exact PuA)); refine fin ?_) | (apply RD_W; rfl; intro bk))
   exact rtA
end Go.Proofs.YtpcpmndldgejiaaGreatDoor
