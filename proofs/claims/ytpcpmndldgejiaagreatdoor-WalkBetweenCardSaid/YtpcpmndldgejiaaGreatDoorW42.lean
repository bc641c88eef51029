/- Parts of the proof. -/
import Derived.Test.YtpcpmndldgejiaaGreatDoorW29
import Derived.Test.YtpcpmndldgejiaaGreatDoorW14
import Derived.Test.YtpcpmndldgejiaaGreatDoorW23
import Derived.Test.YtpcpmndldgejiaaGreatDoorRows
import Derived.LaidSub
import Derived.SevenTiedAt
import Derived.JoinedOf
import Derived.KernelRfl
set_option maxHeartbeats 4000000
set_option linter.unusedVariables false
set_option linter.unusedSimpArgs false
namespace Go.Proofs.YtpcpmndldgejiaaGreatDoor
open Go Go.RowKit Go.Wk
attribute [local irreducible] W RL Does Zay Zam retQ Calls Pu Stp RD Qy Ay Zan RLI WI Pre Zap
structure BtG where
 i : Nat
 p : Zaf
theorem Zq7 {G : Prop} (h : G := by (apply ZaE; rfl; rfl; first | exact e3 | exact e4)) : G := h
theorem Zx1 {G : Prop} (h : G := by (first | exact Zq7 | (apply ZcN; rfl; rfl; first | exact c1 | exact c4) | (apply Zbi; rfl; rfl; exact c2) | (apply Zcv; rfl; rfl; exact c3) | (apply ZaN; rfl; rfl; first | exact c5 | exact c6) | (apply Zzw; rfl; rfl; omega; omega; decide; exact hq) | (apply Zhz (i := (⟨a1, a2, a3⟩ : Zaf)) (j := ⟨a1, a2, a3⟩) (enc := Zaf.enc); rfl; rfl; exact n0))) : G := h
theorem Zx0 {G : Prop} (h : G := by (apply Pu_remE; rfl; rfl; omega; decide)) : G := h
theorem Zvc {G : Prop} (h : G := by (first | exact Zq7 | (apply Zav; rfl; rfl; omega; omega; (intro w' _ hO; exact Zbp (hO.of (A := .row (.slice At ty.length ct) _ _ _ _) (by repeat' constructor)) (by omega))) | (apply Za6 (vs := [.int .i64 a1, .bool a2, .string a3]); rfl; (focus repeat' constructor); exact hflat; rfl) | (apply Zhz (i := (⟨a1, a2, a3⟩ : Zaf)) (j := ⟨a1, a2, a3⟩) (enc := Zaf.enc); rfl; rfl; exact n0) | (apply ZaG; rfl; rfl; exact e5))) : G := h
theorem ZAn {G : Prop} (h : G := by first | (apply Qy_y; rfl; exact Zvc) | exact QyA) : G := h
theorem Zvb {G : Prop} (h : G := by (first | (apply Zav; rfl; rfl; omega; omega; (intro w' _ hO; exact Zbp (hO.of (A := .row (.slice Ao out.length co) _ _ _ _) (by repeat' constructor)) (by omega))) | (apply Zav; rfl; rfl; omega; omega; (intro w' _ hO; exact Zbp (hO.of (A := .row (.slice At ty.length ct) _ _ _ _) (by repeat' constructor)) (by omega))) | (apply Za6 (vs := [.int .i64 u, .int .i64 (j : Int)]); rfl; (focus repeat' constructor); exact hfo; rfl) | (apply Za6 (vs := [.int .i64 x1, .bool x2, .string x3]); rfl; (focus repeat' constructor); exact hft; rfl) | (apply Zcj; rfl; (focus repeat' constructor); exact hfp) | (apply ZcN; rfl; rfl; first | exact c1 | exact c4) | (apply Zbi; rfl; rfl; exact c2) | (apply Zcv; rfl; rfl; exact c3) | (apply ZaN; rfl; rfl; first | exact c5 | exact c6) | (apply ZaE; rfl; rfl; first | exact e3 | exact e4) | (apply Zhz (i := (⟨p1, p2, p3⟩ : Zaf)) (j := ⟨p1, p2, p3⟩) (enc := Zaf.enc); rfl; rfl; exact n1) | (apply Zhz (i := (⟨x1, x2, x3⟩ : Zaf)) (j := ⟨x1, x2, x3⟩) (enc := Zaf.enc); rfl; rfl; exact n2) | (apply Zmb (i := (⟨x1, x2, x3⟩ : Zaf)) (j := ⟨p1, p2, p3⟩) (enc := Zaf.enc); rfl; rfl; exact n3))) : G := h
theorem ZAm {G : Prop} (h : G := by first | (apply Qy_y; rfl; exact Zvb) | exact QyA) : G := h
theorem Zw6 {G G' : Prop} (k : G') (h : Hold G' -> G := by intro k9; (first | refine und ?_ | (apply RL_pu; rfl; exact Zvb) | (apply RD_Q; rfl; rfl; decide +kernel; rfl; rfl; exact ZAm) | refine walk1 ?_ | (refine jg ?_; (try intro F); (first | (refine ZaF (fun w' hw hO => ka w' hw (ZaA (hO.of (A := .fact S _) (by repeat' constructor)))) ?_) | (refine ZaF (fun w' hw hO => kb w' hw (ZaA (hO.of (A := .fact S _) (by repeat' constructor)))) ?_) | (refine ZaF (fun w' hw hO => kc w' hw (ZaA (hO.of (A := .fact S _) (by repeat' constructor)))) ?_) | (refine stA ?_)); first | refine ⟨_, EndsA, QFWaJ4, ?_⟩ | refine fin ?_) | (refine jn ?_; (try intro F); (first | (refine stA ?_) | (apply Zae; first | exact Zvb | exact PuA)); first | refine ⟨_, EndsA, QFWaJ4, ?_⟩ | refine fin ?_)); exact k9.out) : G := h ⟨k⟩
theorem ZxZ {G : Prop} (h : G := by (first | (apply ZaG; rfl; rfl; exact decide_eq_true rfl) | (apply Zmb (i := (⟨p1, p2, p3⟩ : Zaf)) (j := ⟨p1, p2, p3⟩) (enc := Zaf.enc); rfl; rfl; exact n3))) : G := h
set_option maxHeartbeats 8000000 in
set_option maxRecDepth 20000 in
theorem Zh5 (As Az Al : Option Addr) (cs cz cl : Nat) (d : DD23) (which n far : Int) (w : World) (hL : LibW w) (hG : Glob w) (hM : MeG w) (hS : RdLL w As cs ZcH 1 d.sets) (hZ : RdLL w Az cz E23.enc 8 d.zones) (hD : RdSl w Al cl ZcH 1 d.links) (hrs : ∀ l ∈ d.sets, ∀ x ∈ l, inR .u8 x) (hrz : ∀ l ∈ d.zones, ∀ x ∈ l, x.ok) (hrl : ∀ x ∈ d.links, inR .u8 x) (hwh : inR .u8 which) (hnn : inR .u64 n) (hfa : inR .u32 far) :
  Does Tryz.prog 5 [d23V As Az Al cs cz cl d, .int .u8 which, .int .u64 n, .int .u32 far] w (fun v O => v = .bool true /\ O = []) := by
 have hwk := fun w' (hw : Bel w.heap.size w w') => Zdw w' (hL.up hw) (hG.up hw)
 have hpk := fun w' (hw : Bel w.heap.size w w') => ZiJ As Az Al cs cz cl d which w' (hS.up hw) (hZ.up hw) (hD.up hw) hrs hrz hrl hwh
 have hm := mn23 d
 have hsm := ZbU d
 have hzs := ZaX d
 have h12 := Ztm d
 have hnm23 := fun x => nm23 d (x := x)
 unfold PkR at hpk
 generalize Zap d = s at *
 have hn2 : 0 <= n /\ n <= 18446744073709551615 := ZoX.1 hnn
 have hf2 : 0 <= far /\ far <= 4294967295 := ZlI.1 hfa
 have hat := fun w' (hw : Bel w.heap.size w w') => ZjG n w' (hG.up hw) hn2
 have hT := Zuq hn2.1
 generalize atT n = t at *
 refine Zab Tryz.func5 rfl rfl rfl rfl ?_
 repeat (first | refine walk ?_ | (refine jg ?_; (try intro F); (first | (apply Zag (h := fun w' hw _ => hpk w' hw); rfl; rintro v O' ⟨R, Z, L, H, r, z, l, h, S, name, rfl, hnm, rfl⟩) | (refine Zac hat ?_) | (refine bx ?_; intro bk) | (refine stA ?_)); refine fin ?_) | (refine jn ?_; (try intro F); (first | (refine bx ?_; intro bk) | (refine stA ?_) | (apply Zae; exact PuA)); refine fin ?_) | (apply RD_W; rfl; intro bk))
 generalize bk = b9
 obtain ⟨i, zz, hzd, hzi, _⟩ := hnm23 name hnm
 obtain ⟨Y, hY⟩ := hzs zz (List.mem_of_getElem? hzi)
 have hacc := fun w' (hw : Bel w.heap.size w w') (hA : Zaj w' R Z L H r z l h s) => hsm.acc (hL.up hw) (hG.up hw) hA
 have ht1 : tOk t = true := ZaP.2 (by omega)
 have kat := fun (t' : Int) (ht' : tOk t' = true) w' (hw : Bel w.heap.size w w') (hA : Zaj w' R Z L H r z l h s) => mAt R Z L H r z l h s name t' w' (hacc w' hw hA) (hM.up hw) (by omega) hm ht' hzd hzi
 have knx := fun (t' : Int) (ht' : tOk t' = true) w' (hw : Bel w.heap.size w w') (hA : Zaj w' R Z L H r z l h s) => ZiP R Z L H r z l h s name w' (hacc w' hw hA) (by omega) hm hzd hzi hY t' ht'
 have ka := kat t ht1
 have kn := knx t ht1
 obtain ⟨La, hLa⟩ : ∃ La, ZaD s.rules zz.eras t = La := ⟨_, rfl⟩
 obtain ⟨o, ho⟩ : ∃ o, nxD s.rules zz.eras t = o := ⟨_, rfl⟩
 rw [hLa] at ka
 rw [ho] at kn
 have e3 : (!decide ((0 : Int) = 0)) = false := rfl
 have n0 : (!decide (La = La)) = false := by rw [decide_eq_true rfl]; rfl
 obtain ⟨a1, a2, a3⟩ := La
 simp only [Zaf.enc] at ka
 repeat (first | refine und ?_ | (apply RL_pu; rfl; exact Zq7) | (apply RD_Q; rfl; rfl; decide +kernel; rfl; rfl; exact QyWaJ0) | refine walk1 ?_ | (refine jg ?_; (try intro F); (first | (refine ZaF (fun w' hw hO => kn w' hw (ZaA (hO.of (A := .fact S _) (by repeat' constructor)))) ?_) | (refine ZaF (fun w' hw hO => kn2 w' hw (ZaA (hO.of (A := .fact S _) (by repeat' constructor)))) ?_) | (refine ZaF (fun w' hw hO => ka w' hw (ZaA (hO.of (A := .fact S _) (by repeat' constructor)))) ?_) | (refine ZaF (fun w' hw hO => kb w' hw (ZaA (hO.of (A := .fact S _) (by repeat' constructor)))) ?_) | (refine ZaF (fun w' hw hO => kc w' hw (ZaA (hO.of (A := .fact S _) (by repeat' constructor)))) ?_) | (refine bx ?_; intro bk) | (refine stA ?_)); first | refine ⟨_, EndsA, QFWaJ0, ?_⟩ | refine fin ?_) | (refine jn ?_; (try intro F); (first | (refine bx ?_; intro bk) | (refine stA ?_) | (apply Zae; first | exact Zq7 | exact PuA)); first | refine ⟨_, EndsA, QFWaJ0, ?_⟩ | refine fin ?_) | (apply RD_W; rfl; intro bk))
 generalize bk = b15
 refine Zb0 (fun fr' O' => Sub [(3, .int .u32 far), (9, .pointer (some ⟨b9, 0, none⟩)), (10, .string name), (11, .int .i64 t), (15, .pointer (some ⟨b15, 0, none⟩))] fr' /\ SubO [.blk b9 [.slice R s.rules.length r, .slice Z s.zones.length z, .slice L s.links.length l, .slice H s.shifts.length h] 34, .blk b15 [.int .i64 a1, .bool a2, .string a3] 47, .fact S (fun w => Zaj w R Z L H r z l h s)] O') ?_ ?_
 ·rcases o with _ | u
  ·refine Zah rfl (fun h => (by cases h)) (fun _ => ?_)
   repeat (first | refine walk ?_ | (refine jn ?_; (try intro F); (first | (refine bx ?_; intro bk) | (refine stA ?_) | (apply Zae; exact PuA)); refine fin ?_) | (apply RD_W; rfl; intro bk))
   exact ⟨rfl, SFA, SOA⟩
  ·obtain ⟨b1, b2, b3, b4, b5⟩ := hY.btw (t := t) (by omega) (by omega) ho
   obtain ⟨q, hq⟩ : ∃ q, (u - t) / 2 = q := ⟨_, rfl⟩
   rw [hq] at b4
   have kb := kat (u - 1) (ZaP.2 (by omega))
   have kc := kat (t + q) (ZaP.2 (by omega))
   have kn2 := knx (u - 1) (ZaP.2 (by omega))
   rw [b3, hLa] at kb
   rw [b4, hLa] at kc
   rw [b5] at kn2
   simp only [Zaf.enc] at kb kc
   dsimp only [Option.getD, Option.isSome] at kn kn2 ⊢
   have c1 : decide (u <= t) = false := decide_eq_false (by omega)
   have c2 : decide (q < u - t) = true := decide_eq_true (by omega)
   have e4 : (!decide (u = u)) = false := by rw [decide_eq_true rfl]; rfl
   refine Zah rfl (fun _ => ?_) (fun h => (by cases h))
   repeat (first | refine und ?_ | (apply RL_pu; rfl; exact Zx1) | (apply RD_Q; rfl; rfl; decide +kernel; rfl; rfl; exact QyWaJ1) | refine walk1 ?_ | (refine jg ?_; (try intro F); (first | (refine ZaF (fun w' hw hO => kn w' hw (ZaA (hO.of (A := .fact S _) (by repeat' constructor)))) ?_) | (refine ZaF (fun w' hw hO => kn2 w' hw (ZaA (hO.of (A := .fact S _) (by repeat' constructor)))) ?_) | (refine ZaF (fun w' hw hO => ka w' hw (ZaA (hO.of (A := .fact S _) (by repeat' constructor)))) ?_) | (refine ZaF (fun w' hw hO => kb w' hw (ZaA (hO.of (A := .fact S _) (by repeat' constructor)))) ?_) | (refine ZaF (fun w' hw hO => kc w' hw (ZaA (hO.of (A := .fact S _) (by repeat' constructor)))) ?_) | (refine bx ?_; intro bk) | (refine stA ?_)); first | refine ⟨_, EndsA, QFWaJ1, ?_⟩ | refine fin ?_) | (refine jn ?_; (try intro F); (first | (refine bx ?_; intro bk) | (refine stA ?_) | (apply Zae; first | exact Zx1 | exact PuA)); first | refine ⟨_, EndsA, QFWaJ1, ?_⟩ | refine fin ?_) | (apply RD_W; rfl; intro bk))
   exact ⟨rfl, SFA, SOA⟩
 rintro fr' O' ⟨hf, hO⟩
 try apply thenQ_n
 refine Zch hf hO ?_
 clear hf hO fr' O' ka kn ho o
 obtain ⟨to, hto⟩ : ∃ to, t + far % 157784760 = to := ⟨_, rfl⟩
 have hm0 := Int.emod_nonneg far (b := 157784760) (by decide)
 have hm1 := Int.emod_lt_of_pos far (b := 157784760) (by decide)
 obtain ⟨c, hc, hal⟩ := hY.all (a := t) (b := to) (by omega) (by omega) (by omega) (by omega)
 rw [hLa] at hal
 have hlen := ZfY s.rules zz.eras c [⟨a1, a2, a3⟩]
 obtain ⟨_, ⟨more, hmo⟩, hspec⟩ := Zdy s.rules zz.eras c [⟨a1, a2, a3⟩] (ZiM _)
 generalize tyF s.rules zz.eras c [⟨a1, a2, a3⟩] = X at *
 obtain ⟨out, ty⟩ := X
 dsimp only at hlen hmo hspec
 have kl := fun w' (hw : Bel w.heap.size w w') hA => Zeq R Z L H r z l h s name w' (hacc w' hw hA) (by omega) hm hzd hzi hY t to ht1 (ZaP.2 (by omega)) hal
 have hob := Zil hal
 have hty0 : ty[0]? = some ⟨a1, a2, a3⟩ := by rw [hmo]; rfl
 have htl : 0 < ty.length := (List.getElem?_eq_some_iff.1 hty0).1
 have e5 : decide ((ty.length : Int) = 0) = false := decide_eq_false (by omega)
 have hflat : ∀ (j : Nat) (v : Value), ([.int .i64 a1, .bool a2, .string a3] : List Value)[j]? = some v -> (ty.flatMap Zaf.enc)[(0 : Int).toNat * 3 + j]? = some v := fun j v hj => ZaC Zaf.len ty 0 _ j v hty0 hj
 repeat (first | refine und ?_ | (apply RL_pu; rfl; exact Zx0) | (apply RD_Q; rfl; rfl; decide +kernel; rfl; rfl; exact QyWaJ2) | refine walk1 ?_ | (refine jn ?_; (try intro F); (first | (refine bx ?_; intro bk) | (refine stA ?_) | (apply Zae; first | exact Zx0 | exact PuA)); first | refine ⟨_, EndsA, QFWaJ2, ?_⟩ | refine fin ?_) | (apply RD_W; rfl; intro bk))
 rw [hto]
 repeat (first | refine und ?_ | (apply RL_pu; rfl; exact Zvc) | (apply RD_Q; rfl; rfl; decide +kernel; rfl; rfl; exact ZAn) | refine walk1 ?_ | (refine jg ?_; (try intro F); (first | (apply Zag (h := fun w' hw hO => kl w' hw (ZaA (hO.of (A := .fact S _) (by repeat' constructor)))); rfl; rintro v O' ⟨Ao, co, At, ct, rfl, rfl⟩) | (refine bx ?_; intro bk) | (refine stA ?_)); first | refine ⟨_, EndsA, QFWaJ3, ?_⟩ | refine fin ?_) | (refine jn ?_; (try intro F); (first | (refine bx ?_; intro bk) | (refine stA ?_) | (apply Zae; first | exact Zvc | exact PuA)); first | refine ⟨_, EndsA, QFWaJ3, ?_⟩ | refine fin ?_) | (apply RD_W; rfl; intro bk))
 refine Zaq [(9, .pointer (some ⟨b9, 0, none⟩)), (10, .string name), (11, .int .i64 t), (15, .pointer (some ⟨b15, 0, none⟩)), (24, .int .i64 to), (25, .slice Ao out.length co), (26, .slice At ty.length ct), (163, .slice Ao out.length co), (164, .int .i64 out.length)] [.blk b9 [.slice R s.rules.length r, .slice Z s.zones.length z, .slice L s.links.length l, .slice H s.shifts.length h] 34, .fact S (fun w => Zaj w R Z L H r z l h s), .row (.slice Ao out.length co) 45 2 out.length (out.flatMap Zbs), .row (.slice At ty.length ct) 47 3 ty.length (ty.flatMap Zaf.enc)] (fun g : BtG => [(165, .int .i64 g.i)]) (fun g => [.blk b15 [.int .i64 g.p.off, .bool g.p.dst, .string g.p.abbr] 47])
  (fun g => g.i <= out.length /\ g.p = ZiI s.rules zz.eras t c g.i) (fun g => out.length - g.i) ⟨0, ⟨a1, a2, a3⟩⟩ SFA SOA ⟨Nat.zero_le _, hLa.symm⟩ ?_
 clear n0
 rintro ⟨i, ⟨p1, p2, p3⟩⟩ ⟨hi, hp⟩
 dsimp only at hi hp ⊢
 have n1 : (!decide ((⟨p1, p2, p3⟩ : Zaf) = ⟨p1, p2, p3⟩)) = false := by rw [decide_eq_true rfl]; rfl
 repeat (first | refine walk ?_ | (refine jn ?_; (try intro F); (first | (refine bx ?_; intro bk) | (refine stA ?_) | (apply Zae; exact PuA)); refine fin ?_) | (apply RD_W; rfl; intro bk))
 refine Zah rfl (fun hcd => ?_) (fun hcd => ?_)
 ·have hic : i < c.length := by
   have := of_decide_eq_true hcd
   omega
  obtain ⟨u, hu⟩ : ∃ u, c[i]? = some u := ⟨_, List.getElem?_eq_getElem hic⟩
  obtain ⟨q1, q2, q3, q4, q5⟩ := hc.at i u hu
  obtain ⟨j, hj1, hj2⟩ := hspec i u hu
  have hjl : j < ty.length := (List.getElem?_eq_some_iff.1 hj2).1
  have ka := kat (u - 1) (ZaP.2 (by omega))
  have kb := kat u (ZaP.2 (by omega))
  rw [q3, <- hp] at ka
  rw [<- hp] at q4
  obtain ⟨Q, hQ⟩ : ∃ Q, ZaD s.rules zz.eras u = Q := ⟨_, rfl⟩
  rw [hQ] at kb q4 hj2
  obtain ⟨x1, x2, x3⟩ := Q
  simp only [Zaf.enc] at ka kb
  have hnext : (⟨x1, x2, x3⟩ : Zaf) = ZiI s.rules zz.eras t c (i + 1) := by
   rw [ZiI, List.getD_eq_getElem?_getD, hu]
   exact hQ.symm
  have hfo : ∀ (k : Nat) (v : Value), ([.int .i64 u, .int .i64 (j : Int)] : List Value)[k]? = some v -> (out.flatMap Zbs)[(i : Int).toNat * 2 + k]? = some v := fun k v hk => ZaC Zbs.len out i _ k v hj1 hk
  have hft : ∀ (k : Nat) (v : Value), ([.int .i64 x1, .bool x2, .string x3] : List Value)[k]? = some v -> (ty.flatMap Zaf.enc)[(j : Int).toNat * 3 + k]? = some v := fun k v hk => ZaC Zaf.len ty j _ k v hj2 hk
  have n2 : (!decide ((⟨x1, x2, x3⟩ : Zaf) = ⟨x1, x2, x3⟩)) = false := by rw [decide_eq_true rfl]; rfl
  have n3 : decide ((⟨x1, x2, x3⟩ : Zaf) = ⟨p1, p2, p3⟩) = false := decide_eq_false q4
  have c1 : decide (u <= t) = false := decide_eq_false (by omega)
  have c2 : decide ((j : Int) < 0) = false := decide_eq_false (by omega)
  have c3 : decide ((ty.length : Int) <= (j : Int)) = false := decide_eq_false (by omega)
  have c5 : decide (to < u) = false := decide_eq_false (by omega)
  have hsp2 := hspec
  clear hp q3 q4 hQ hj1 hj2 hspec hmo hal kl kat knx hty0 hflat
  rcases i with _ | i
  ·have c6 : decide ((0 : Int) < ((0 : Nat) : Int)) = false := rfl
   repeat (first | refine Zw6 ?_ | (refine jg ?_; (try intro F); (refine bx ?_; intro bk); first | refine ⟨_, EndsA, QFWaJ4, ?_⟩ | refine fin ?_) | (refine jn ?_; (try intro F); (refine bx ?_; intro bk); first | refine ⟨_, EndsA, QFWaJ4, ?_⟩ | refine fin ?_) | (apply RD_W; rfl; intro bk))
   exact ⟨⟨1, ⟨x1, x2, x3⟩⟩, by dsimp only; omega, ⟨by dsimp only; omega, hnext⟩, SFA, SOA⟩
  ·obtain ⟨v, hv⟩ : ∃ v, c[i]? = some v := ⟨_, List.getElem?_eq_getElem (by omega)⟩
   obtain ⟨jv, hv1, _⟩ := hsp2 i v hv
   have hvu := q5 v (Nat.succ_pos i) hv
   have c4 : decide (u <= v) = false := decide_eq_false (by omega)
   have c6 : decide ((0 : Int) < ((i + 1 : Nat) : Int)) = true := decide_eq_true (by omega)
   have hfp : (out.flatMap Zbs)[(((i + 1 : Nat) : Int) - 1).toNat * 2 + 0]? = some (.int .i64 v) := by
    rw [show (((i + 1 : Nat) : Int) - 1).toNat = i by omega]
    exact ZaC Zbs.len out i _ 0 _ hv1 rfl
   clear hsp2 hv hv1 q5
   repeat (first | refine Zw6 ?_ | (refine jg ?_; (try intro F); (refine bx ?_; intro bk); first | refine ⟨_, EndsA, QFWaJ4, ?_⟩ | refine fin ?_) | (refine jn ?_; (try intro F); (refine bx ?_; intro bk); first | refine ⟨_, EndsA, QFWaJ4, ?_⟩ | refine fin ?_) | (apply RD_W; rfl; intro bk))
   exact ⟨⟨i + 1 + 1, ⟨x1, x2, x3⟩⟩, by dsimp only; omega, ⟨by dsimp only; omega, hnext⟩, SFA, SOA⟩
 ·obtain rfl : i = out.length := by
   have := of_decide_eq_false hcd
   omega
  have ka := kat to (ZaP.2 (by omega))
  rw [hc.last (by omega), <- hlen, <- hp] at ka
  simp only [Zaf.enc] at ka
  have n3 : decide ((⟨p1, p2, p3⟩ : Zaf) = ⟨p1, p2, p3⟩) = true := decide_eq_true rfl
  clear hp hspec hmo hal kl kat knx hty0 hflat hc
  repeat (first | refine und ?_ | (apply RL_pu; rfl; exact ZxZ) | (apply RD_Q; rfl; rfl; decide +kernel; rfl; rfl; exact QyWaJ5) | refine walk1 ?_ | (refine jg ?_; (try intro F); (first | (refine ZaF (fun w' hw hO => ka w' hw (ZaA (hO.of (A := .fact S _) (by repeat' constructor)))) ?_) | (refine ZaF (fun w' hw hO => kb w' hw (ZaA (hO.of (A := .fact S _) (by repeat' constructor)))) ?_) | (refine ZaF (fun w' hw hO => kc w' hw (ZaA (hO.of (A := .fact S _) (by repeat' constructor)))) ?_) | (refine Zac hwk ?_) | (refine bx ?_; intro bk) | (refine stA ?_)); first | refine ⟨_, EndsA, QFWaJ5, ?_⟩ | refine fin ?_) | (refine jn ?_; (try intro F); (first | (refine bx ?_; intro bk) | (refine stA ?_) | (apply Zae; first | exact ZxZ | exact PuA)); first | refine ⟨_, EndsA, QFWaJ5, ?_⟩ | refine fin ?_) | (apply RD_W; rfl; intro bk))
  exact rtA
end Go.Proofs.YtpcpmndldgejiaaGreatDoor
