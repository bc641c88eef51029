/- Parts of the proof. -/
import Derived.Test.YtpcpmndldgejiaaGreatDoorW24
import Derived.Test.YtpcpmndldgejiaaGreatDoorW22
import Derived.Test.YtpcpmndldgejiaaGreatDoorW12
import Derived.Test.YtpcpmndldgejiaaGreatDoorW21
set_option maxHeartbeats 4000000
set_option linter.unusedVariables false
set_option linter.unusedSimpArgs false
namespace Go.Wk
open Go Go.RowKit
structure RuH where
 A : Option Addr
 c : Nat
 l : List Zaa
structure WfG where
 k : Nat
 A : Option Addr
 c : Nat
 m : Nat
 xs : List Value
 hr : List RuH
end Go.Wk
namespace Go.Proofs.YtpcpmndldgejiaaGreatDoor
open Go Go.RowKit Go.Wk
attribute [local irreducible] W RL Does Zay Zam retQ Calls Pu Stp RD Qy Ay Zan
def _root_.Go.Wk.RuH.v (h : RuH) : Value := .slice h.A h.l.length h.c
def _root_.Go.Wk.RuH.row (h : RuH) : It := .row (.slice h.A h.l.length h.c) 118 11 h.l.length (h.l.flatMap Zaa.enc)
def FdR (rs : List Zaa) (Ae : Option Addr) (ce : Nat) (l : List DEra) (r : List ZaI) (v : Value) (O : List It) : Prop :=
 ∃ (p : PaL) (S : Nat -> Prop), p.Ae = Ae /\ p.ce = ce /\ v = .tuple #[.agg (p.cells l r).toArray, .int .i64 0] /\ O = [.row (.slice p.As r.length p.cs) 150 3 r.length (r.flatMap ZaI.enc), .fact S (fun w => RdLL w p.Ar p.cr Zaa.enc 11 (l.map (ruEr rs)))]
theorem Zv1 {a b c d : It} (M : List It) : SubO ((b :: M) ++ [a, c, d]) (a :: b :: c :: d :: M) := SubO.ofPerm (R := []) (by
 rw [List.append_nil]
 exact (List.Perm.cons a ((List.Perm.swap c b (d :: M)).trans (List.Perm.cons c (List.Perm.swap d b M)))).trans (show (a :: c :: d :: (b :: M)).Perm _ from List.perm_append_comm (l₁ := [a, c, d]) (l₂ := b :: M)))
theorem Zx9 {G : Prop} (h : G := by (first | (apply Pu_indexAddr; rfl; rfl; omega; omega; first | exact hnz | exact hna) | (apply Pu_loadO1; rfl; exact hcz 1 _ rfl) | exact PuI | (apply ZaG; rfl; rfl; exact d4))) : G := h
set_option maxHeartbeats 4000000 in
theorem Znr (Ar Az Al As : Option Addr) (cr cz cl cs : Nat) (a : Zai) (name : ByteArray) (i : Nat) (z : ZaY) (res : List ZaI) (Ae : Option Addr) (ce : Nat) (w : World) (h : ZcO w Ar Az Al As cr cz cl cs a) (hac : accD a = none) (hn : a.zones.length + a.links.length <= 1000000) (hf : ZaK a (a.links.length + 1) [] name = (i, 0))
  (hi : a.zones[i]? = some z) (hnz : Az ≠ none) (hcz : Zao w ((adr Az).add (i * 2)) [.string z.name, .slice Ae z.eras.length ce]) (hEz : RdSl w Ae ce DEra.enc 13 z.eras)
  (hE : ∀ k e, z.eras[k]? = some e -> k + 1 < z.eras.length -> RsSm (ruEr a.rules e) /\ UnOk e (ruEr a.rules e)) (hl : ZfB a.rules z.eras = some res) :
  Does Tryz.prog 26 [srcV Ar Az Al As cr cz cl cs a, .string name] w (FdR a.rules Ae ce z.eras res) := by
 have hil : i < a.zones.length := (List.getElem?_eq_some_iff.1 hi).1
 have hlz := h.A.zle
 have hlc := h.A.zcap
 simp only [maxLen] at hlc
 have hck := fun w' (hw : Bel w.heap.size w w') => accS (h.up hw)
 rw [hac] at hck
 change ∀ w', Bel w.heap.size w w' -> Does _ _ _ w' (fun v O => v = .tuple #[.agg #[.int .i64 0, .int .i64 0, .int .i64 0], .int .i64 0] /\ O = []) at hck
 have hfd := fun w' (hw : Bel w.heap.size w w') => Zhk Ar Az Al As cr cz cl cs a name w' (h.A.up hw) hn
 rw [hf] at hfd
 dsimp only at hfd
 have hnr := h.S.nr
 have hzl := (h.S.zs z (List.mem_of_getElem? hi)).2.1
 have hsp := fun w' (hw : Bel w.heap.size w w') => Zkl Ar Az Al As cr cz cl cs a i z res w' (h.G.up hw) (h.A.up hw) hnr hzl hi hE hl
 unfold SpR at hsp
 have hrl : res.length = z.eras.length := Zw9 _ _ _ _ _ hl
 have e3 : (!decide ((0 : Int) = 0)) = false := rfl
 have hofE := fun set w' (hw : Bel w.heap.size w w') => Zfi Ar Az Al As cr cz cl cs a set w' (h.A.up hw) hnr
 have hel := hEz.le
 have hec := hEz.cap
 simp only [maxLen] at hec
 clear hE hl hi hac hf hn
 refine Zab Tryz.func26 rfl rfl rfl rfl ?_
 repeat (first | (apply RL_pu; rfl; (first | (apply ZaE; rfl; rfl; exact e3) | (apply Pu_indexAddr; rfl; rfl; omega; omega; first | exact hnz | exact hna) | (apply Pu_loadO1; rfl; exact hcz 1 _ rfl) | exact PuI)) | (refine js ?_; (first | (refine Zac hck ?_) | (refine Zac hfd ?_) | (apply Zag (h := fun w' hw _ => hsp w' hw); rfl; rintro v O' ⟨A4, c4, rfl, rfl⟩) | (refine bx ?_; intro bk))) | refine walk1 ?_)
 generalize bk = b11
 rename_i b2 b4 b6
 refine ZfG 29 1 ?_
 refine Zaq [(2, .pointer (some ⟨b2, 0, none⟩)), (4, .pointer (some ⟨b4, 0, none⟩)), (11, .pointer (some ⟨b11, 0, none⟩)), (53, .slice Ae z.eras.length ce), (54, .int .i64 z.eras.length)] []
  (fun g : WfG => [(55, .int .i64 g.k)]) (fun g => .blk b11 [.slice Ae z.eras.length ce, .slice A4 res.length c4, .slice g.A g.m g.c] 92 :: .row (.slice g.A g.m g.c) 29 1 g.m g.xs :: .blk b2 [.slice Ar a.rules.length cr, .slice Az a.zones.length cz, .slice Al a.links.length cl, .slice As a.shifts.length cs] 34 :: .blk b4 [.slice none 0 0, .slice none 0 0, .slice none 0 0] 92 :: .row (.slice A4 res.length c4) 150 3 res.length (res.flatMap ZaI.enc) :: g.hr.map RuH.row)
  (fun g => g.k <= z.eras.length /\ g.m = g.k /\ g.xs.length = g.k /\ ∀ j e, z.eras[j]? = some e -> j < g.k -> (g.xs[j]? = some (.slice none 0 0) /\ ruEr a.rules e = []) \/ ∃ hh ∈ g.hr, hh.l = ruEr a.rules e /\ g.xs[j]? = some hh.v) (fun g => z.eras.length - g.k) ⟨0, none, 0, 0, [], []⟩ SFA STA ⟨Nat.zero_le _, rfl, rfl, fun j e _ hj => absurd hj (Nat.not_lt_zero _)⟩ ?_
 rintro ⟨k, A, c, m, xs, hr⟩ ⟨hk, hm, hxl, hH⟩
 dsimp only at hk hm hxl hH ⊢
 repeat (first | (refine js ?_; (refine bx ?_; intro bk)) | refine walk ?_)
 refine Zah rfl (fun hc => ?_) (fun hc => ?_)
 ·simp only [decide_eq_true_eq, Int.ofNat_lt] at hc
  obtain ⟨hna, hca⟩ := hEz.rd k _ (List.getElem?_eq_getElem hc)
  have hgk := List.getElem?_eq_getElem hc
  generalize z.eras[k] = e at *
  have hof := fun w' (hw : Bel w.heap.size w w') => hofE e.set w' hw
  have hru : ruEr a.rules e = if e.kind = 2 then ofB a.rules e.set else [] := rfl
  have hrl1 : (ofB a.rules e.set).length <= 1000000 := Nat.le_trans (List.length_filter_le _ _) hnr
  have keep : ∀ (v : Value) (j : Nat) (u : Value), xs[j]? = some u -> (xs ++ [v])[j]? = some u := fun v j u hj => by
   rw [List.getElem?_append_left (List.getElem?_eq_some_iff.1 hj).1]
   exact hj
  have last : ∀ v : Value, (xs ++ [v])[k]? = some v := fun v => by rw [List.getElem?_append_right (by omega), hxl]; simp
  generalize ofB a.rules e.set = rr at *
  by_cases h2 : e.kind = 2
  ·have d4 : decide (e.kind = 2) = true := decide_eq_true h2
   rw [if_pos h2] at hru
   have hH2 : ∀ (A3 : Option Addr) (c3 : Nat) j f, z.eras[j]? = some f -> j < k + 1 -> ((xs ++ [.slice A3 rr.length c3])[j]? = some (.slice none 0 0) /\ ruEr a.rules f = []) \/ ∃ hh ∈ (⟨A3, c3, rr⟩ :: hr : List RuH), hh.l = ruEr a.rules f /\ (xs ++ [.slice A3 rr.length c3])[j]? = some hh.v := fun A3 c3 j f hj hlt => by
    by_cases hjk : j < k
    ·rcases hH j f hj hjk with ⟨q1, q2⟩ | ⟨hh, q1, q2, q3⟩
     ·exact .inl ⟨keep _ _ _ q1, q2⟩
     ·exact .inr ⟨hh, List.mem_cons_of_mem _ q1, q2, keep _ _ _ q3⟩
    ·obtain rfl : j = k := by omega
     rw [hgk] at hj
     cases hj
     exact .inr ⟨_, List.mem_cons_self, hru.symm, last _⟩
   clear hH keep last hru hgk
   obtain ⟨off, kd, esv, sset, fm, ⟨ui, uy, um, ⟨ud1, ud2, ud3⟩, ⟨uc1, uc2⟩⟩⟩ := e
   simp only [DEra.enc] at hca
   dsimp only at hof d4
   repeat (first | (apply RL_pu; rfl; exact Zx9) | (refine js ?_; (first | (apply Zag (h := fun w' hw _ => hof w' hw); rfl; rintro v O' ⟨A3, c3, rfl, rfl⟩) | (apply Zau; rfl; rfl; (intro A' c'; (focus repeat' constructor)); (intro w' _ hO; exact Za4 (hO.of (by repeat' constructor))); rfl; rfl; (simp only [maxLen]; omega); omega; intro A' c' hc1 hc2 hc3) | (refine bx ?_; intro bk))) | refine walk1 ?_)
   exact ⟨⟨k + 1, A', c', m + 1, xs ++ [.slice A3 rr.length c3], ⟨A3, c3, rr⟩ :: hr⟩, OA, ⟨OA, by dsimp only; omega, by simp [hxl], hH2 A3 c3⟩, SFA, STA⟩
  ·have d4 : decide (e.kind = 2) = false := decide_eq_false h2
   rw [if_neg h2] at hru
   have hH2 : ∀ j f, z.eras[j]? = some f -> j < k + 1 -> ((xs ++ [.slice none 0 0])[j]? = some (.slice none 0 0) /\ ruEr a.rules f = []) \/ ∃ hh ∈ hr, hh.l = ruEr a.rules f /\ (xs ++ [.slice none 0 0])[j]? = some hh.v := fun j f hj hlt => by
    by_cases hjk : j < k
    ·rcases hH j f hj hjk with ⟨q1, q2⟩ | ⟨hh, q1, q2, q3⟩
     ·exact .inl ⟨keep _ _ _ q1, q2⟩
     ·exact .inr ⟨hh, q1, q2, keep _ _ _ q3⟩
    ·obtain rfl : j = k := by omega
     rw [hgk] at hj
     cases hj
     exact .inl ⟨last _, hru⟩
   clear hH keep last hru hgk
   obtain ⟨off, kd, esv, sset, fm, ⟨ui, uy, um, ⟨ud1, ud2, ud3⟩, ⟨uc1, uc2⟩⟩⟩ := e
   simp only [DEra.enc] at hca
   dsimp only at d4
   repeat (first | (apply RL_pu; rfl; exact Zx9) | (refine js ?_; (first | (apply Zau; rfl; rfl; (intro A' c'; (focus repeat' constructor)); (intro w' _ hO; exact Za4 (hO.of (by repeat' constructor))); rfl; rfl; (simp only [maxLen]; omega); omega; intro A' c' hc1 hc2 hc3) | (refine bx ?_; intro bk))) | refine walk1 ?_)
   exact ⟨⟨k + 1, A', c', m + 1, xs ++ [.slice none 0 0], hr⟩, OA, ⟨OA, by dsimp only; omega, by simp [hxl], hH2⟩, SFA, STA⟩
 ·obtain rfl : k = z.eras.length := by simp only [decide_eq_false_iff_not, Int.ofNat_lt] at hc; omega
  subst hm
  refine ZdG (.row (.slice A z.eras.length c) 29 1 z.eras.length xs :: hr.map RuH.row) [.blk b11 [.slice Ae z.eras.length ce, .slice A4 res.length c4, .slice A z.eras.length c] 92, .blk b4 [.slice none 0 0, .slice none 0 0, .slice none 0 0] 92, .row (.slice A4 res.length c4) 150 3 res.length (res.flatMap ZaI.enc)] (fun w => RdLL w A c Zaa.enc 11 (z.eras.map (ruEr a.rules))) ?_ (fun w' hs => ?_) ?_
  ·refine SubO.trans (B := .blk b11 [.slice Ae z.eras.length ce, .slice A4 res.length c4, .slice A z.eras.length c] 92 :: .row (.slice A z.eras.length c) 29 1 z.eras.length xs :: .blk b4 [.slice none 0 0, .slice none 0 0, .slice none 0 0] 92 :: .row (.slice A4 res.length c4) 150 3 res.length (res.flatMap ZaI.enc) :: hr.map RuH.row) (Zv1 _) (.cons (by repeat' constructor) (.cons (by repeat' constructor) (.cons (by repeat' constructor) (.cons (by repeat' constructor) ?_))))
   first | exact (SubO.append _ []).drop | exact SubO.append _ []
  ·have hfl : xs.flatMap (fun v => [v]) = xs := by simp
   have hrow : RdSl w' A c (fun v : Value => [v]) 1 xs := ZaW (fun _ => rfl) (by rw [hfl, hxl]; exact hs _ List.mem_cons_self)
   refine ⟨by rw [List.length_map, <- hxl]; exact hrow.le, hrow.cap, fun j l' hj => ?_⟩
   rw [List.getElem?_map] at hj
   obtain ⟨e, he, rfl⟩ := Option.map_eq_some_iff.1 hj
   have hjl : j < z.eras.length := (List.getElem?_eq_some_iff.1 he).1
   rcases hH j e he hjl with ⟨q1, q2⟩ | ⟨hh, q1, q2, q3⟩
   ·obtain ⟨n1, n2⟩ := hrow.rd j _ q1
    rw [q2]
    exact ⟨n1, none, 0, ⟨Nat.le_refl _, Nat.zero_le _, fun k x hx => by simp at hx⟩, n2⟩
   ·obtain ⟨n1, n2⟩ := hrow.rd j _ q3
    rw [<- q2]
    exact ⟨n1, hh.A, hh.c, ZaW Zaa.len (hs _ (List.mem_cons_of_mem _ (List.mem_map_of_mem q1))), n2⟩
  clear hH
  repeat (first | (refine js ?_; (refine bx ?_; intro bk)) | refine walk ?_)
  exact ret_2 _ _ [.row (.slice A4 res.length c4) 150 3 res.length (res.flatMap ZaI.enc), .fact (foot (.row (.slice A z.eras.length c) 29 1 z.eras.length xs :: hr.map RuH.row)) (fun w => RdLL w A c Zaa.enc 11 (z.eras.map (ruEr a.rules)))] (.cellB rfl (by repeat' constructor) rfl rfl) (.tmp rfl) SOA ⟨⟨Ae, ce, A4, c4, A, c⟩, _, rfl, rfl, rfl, rfl⟩
end Go.Proofs.YtpcpmndldgejiaaGreatDoor
namespace Go.Proofs.YtpcpmndldgejiaaGreatDoor
open Go Go.RowKit Go.Wk
theorem Zsg {a : Zai} (h : accD a = none) : Zb7 a = none := by
 unfold accD at h
 simp only [Option.or_eq_none_iff] at h
 exact h.2.2.2.1
theorem ZfI {s : Zai} : ∀ (l : List ZaY) (i : Nat), Za1 s l i = none -> ∀ (j : Nat) (z : ZaY), l[j]? = some z -> ZbA z.name s.zones 0 = some (i + j)
 | [], _, _, j, z, h => by simp at h
 | x :: l, i, h, j, z, hz => by
  rw [Za1] at h
  by_cases h1 : Zg7 x.name = false
  ·rw [if_pos h1] at h; cases h
  rw [if_neg h1] at h
  by_cases h2 : ZbA x.name s.zones 0 ≠ some i
  ·rw [if_pos h2] at h; cases h
  rw [if_neg h2] at h
  rcases j with _ | j
  ·simp only [List.getElem?_cons_zero, Option.some.injEq] at hz
   subst hz
   exact Decidable.not_not.1 h2
  ·simp only [List.getElem?_cons_succ] at hz
   rw [ZfI l (i + 1) h j z hz, Option.some.injEq]
   omega
theorem Zkd {a : Zai} (h : accD a = none) {i : Nat} {z : ZaY} (hi : a.zones[i]? = some z) : ZbI a z.name = (((i : Nat) : Int), 0) := by
 have hl := Zsg h
 unfold Zb7 at hl
 rw [Option.or_eq_none_iff] at hl
 have hf := ZfI _ _ hl.1 i z hi
 unfold ZbI
 rw [h]
 dsimp only
 rw [ZaK, hf]
 dsimp only
 rw [Nat.zero_add]
theorem Znk {x : ByteArray} : ∀ (l : List ZaY) (k : Nat), (∀ z ∈ l, z.name ≠ x) -> ZbA x l k = none
 | [], _, _ => rfl
 | z :: l, k, h => by
  rw [ZbA, if_neg (h z List.mem_cons_self)]
  exact Znk l (k + 1) fun y hy => h y (List.mem_cons_of_mem _ hy)
theorem Znl {x : ByteArray} : ∀ (l : List Zbf) (k : Nat), (∀ z ∈ l, z.name ≠ x) -> Zb8 x l k = none
 | [], _, _ => rfl
 | z :: l, k, h => by
  rw [Zb8, if_neg (h z List.mem_cons_self)]
  exact Znl l (k + 1) fun y hy => h y (List.mem_cons_of_mem _ hy)
theorem ZvS {a : Zai} (h : accD a = none) {x : ByteArray} (hz : ∀ z ∈ a.zones, z.name ≠ x) (hl : ∀ l ∈ a.links, l.name ≠ x) : ZbI a x = (0, 9) := by
 unfold ZbI
 rw [h]
 dsimp only
 rw [ZaK, Znk _ _ hz]
 dsimp only
 rw [Znl _ _ hl]
 rfl
theorem Zip {a : Zai} {p : ZaH} {e : Int} (h : accD a = some (p, e)) (x : ByteArray) : ZbI a x = (0, e) := by unfold ZbI; rw [h]
theorem Zgd (d : DD23) {x : ByteArray} (hx : x ∈ (Zap d).zones.map ZaY.name \/ x ∈ (Zap d).links.map Zbf.name) : x ∈ Zfn (zl23 d.zones).length (d.links.take 4).length := by
 obtain ⟨h1, h2⟩ := ZiU d
 unfold Zfn
 rw [List.mem_append]
 rcases hx with hx | hx
 ·exact .inl (by rw [<- h1]; exact hx)
 ·exact .inr (by rw [<- h2]; exact hx)
theorem nm23 (d : DD23) {x : ByteArray} (hx : x ∈ (Zap d).zones.map ZaY.name \/ x ∈ (Zap d).links.map Zbf.name) : ∃ (i : Nat) (z : ZaY), ZbI (Zap d) x = (((i : Nat) : Int), 0) /\ (Zap d).zones[i]? = some z /\ (ZaK (Zap d) ((Zap d).links.length + 1) [] x).1 = i /\ (ZaK (Zap d) ((Zap d).links.length + 1) [] x).2 = 0 := by
 obtain ⟨h1, h2⟩ := ZoN d x (Zgd d hx)
 obtain ⟨z, hz⟩ : ∃ z, (Zap d).zones[(ZaK (Zap d) ((Zap d).links.length + 1) [] x).1]? = some z := ⟨_, List.getElem?_eq_getElem h2⟩
 refine ⟨_, z, ?_, hz, rfl, h1⟩
 unfold ZbI
 rw [Zfj d]
 dsimp only
 rw [h1]
theorem mn23 (d : DD23) : MnOk (Zap d) := Zto (Zfj d) (ZaX d)
theorem Ztm (d : DD23) : (Zap d).zones.length + (Zap d).links.length <= 12 := by
 have h1 := Zdf d
 have h2 := ZeV d
 obtain ⟨z1, z3⟩ := ZbK d.zones
 omega
attribute [local irreducible] W RL Does Zay Zam retQ Calls Pu Stp RD Qy Ay Zan
theorem Zra {G : Prop} (h : G := by (apply ZaE; rfl; rfl; first | exact e3 | exact e4)) : G := h
theorem ZkN (Ar Az Al As : Option Addr) (cr cz cl cs : Nat) (a : Zai) (name : ByteArray) (w : World) (h : ZcO w Ar Az Al As cr cz cl cs a) (hn : a.zones.length + a.links.length <= 1000000) (he : (ZbI a name).2 ≠ 0) :
  Does Tryz.prog 26 [srcV Ar Az Al As cr cz cl cs a, .string name] w (fun v O => v = .tuple #[.agg #[.slice none 0 0, .slice none 0 0, .slice none 0 0], .int .i64 (ZbI a name).2] /\ O = []) := by
 have hck := fun w' (hw : Bel w.heap.size w w') => accS (h.up hw)
 have e3 : (!decide ((0 : Int) = 0)) = false := rfl
 unfold ZbI at he ⊢
 cases hac : accD a with
 | some x =>
  obtain ⟨⟨p1, p2, p3⟩, e⟩ := x
  rw [hac] at hck he
  dsimp only at he ⊢
  have e4 : (!decide (e = 0)) = true := by rw [decide_eq_false he]; rfl
  change ∀ w', Bel w.heap.size w w' -> Does _ _ _ w' (fun v O => v = .tuple #[.agg #[.int .i64 p1, .int .i64 p2, .int .i64 p3], .int .i64 e] /\ O = []) at hck
  refine Zab Tryz.func26 rfl rfl rfl rfl ?_
  repeat (first | (apply RL_pu; rfl; exact Zra) | (refine js ?_; (first | (refine Zac hck ?_) | (refine bx ?_; intro bk))) | refine walk1 ?_)
  exact rtC
 | none =>
  rw [hac] at hck he
  dsimp only at he ⊢
  have hfd := fun w' (hw : Bel w.heap.size w w') => Zhk Ar Az Al As cr cz cl cs a name w' (h.A.up hw) hn
  generalize ZaK a (a.links.length + 1) [] name = F at *
  obtain ⟨i, e⟩ := F
  dsimp only at he hfd ⊢
  have e4 : (!decide (e = 0)) = true := by rw [decide_eq_false he]; rfl
  change ∀ w', Bel w.heap.size w w' -> Does _ _ _ w' (fun v O => v = .tuple #[.agg #[.int .i64 0, .int .i64 0, .int .i64 0], .int .i64 0] /\ O = []) at hck
  refine Zab Tryz.func26 rfl rfl rfl rfl ?_
  repeat (first | (apply RL_pu; rfl; exact Zra) | (refine js ?_; (first | (refine Zac hck ?_) | (refine Zac hfd ?_) | (refine bx ?_; intro bk))) | refine walk1 ?_)
  exact rtC
theorem Zkw (Ar Az Al As : Option Addr) (cr cz cl cs : Nat) (a : Zai) (name : ByteArray) (t : Int) (w : World) (ht : tOk t = false) :
  Does Tryz.prog 14 [srcV Ar Az Al As cr cz cl cs a, .string name, .int .i64 t] w (fun v O => v = .tuple #[.int .i64 0, .bool false, .int .i64 3] /\ O = []) := by
 refine Zab Tryz.func14 rfl rfl rfl rfl ?_
 repeat (first | (refine js ?_; (first | (refine Zac (fun w' _ => Za8 t w') ?_) | (refine bx ?_; intro bk))) | refine walk ?_)
 rw [ht]
 repeat (first | (refine js ?_; (refine bx ?_; intro bk)) | refine walk ?_)
 exact ZfD _ _ _ [] (.tmp rfl) (.tmp rfl) (.tmp rfl) .nil ⟨rfl, rfl⟩
theorem ZiO (Ar Az Al As : Option Addr) (cr cz cl cs : Nat) (a : Zai) (name : ByteArray) (t : Int) (w : World) (h : ZcO w Ar Az Al As cr cz cl cs a) (hn : a.zones.length + a.links.length <= 1000000) (ht : tOk t = true) (he : (ZbI a name).2 ≠ 0) :
  Does Tryz.prog 14 [srcV Ar Az Al As cr cz cl cs a, .string name, .int .i64 t] w (fun v O => v = .tuple #[.int .i64 0, .bool false, .int .i64 (ZbI a name).2] /\ O = []) := by
 have hfe := fun w' (hw : Bel w.heap.size w w') => ZkN Ar Az Al As cr cz cl cs a name w' (h.up hw) hn he
 have e3 : (!decide ((ZbI a name).2 = 0)) = true := by rw [decide_eq_false he]; rfl
 have e4 := e3
 generalize (ZbI a name).2 = e at *
 refine Zab Tryz.func14 rfl rfl rfl rfl ?_
 repeat (first | (refine js ?_; (first | (refine Zac (fun w' _ => Za8 t w') ?_) | (refine bx ?_; intro bk))) | refine walk ?_)
 rw [ht]
 repeat (first | (apply RL_pu; rfl; exact Zra) | (refine js ?_; (first | (refine Zac hfe ?_) | (refine bx ?_; intro bk))) | refine walk1 ?_)
 exact ZfD _ _ _ [] (.tmp rfl) (.tmp rfl) (.tmp rfl) .nil ⟨rfl, rfl⟩
structure WkOk (a : Zai) (z : ZaY) : Prop where
 rs : ∀ e ∈ z.eras, RsSm (ruEr a.rules e)
 of : ∀ e ∈ z.eras, -1000000000 <= e.off /\ e.off <= 1000000000
theorem ZmP (Ar Az Al As : Option Addr) (cr cz cl cs : Nat) (a : Zai) (name : ByteArray) (t : Int) (i : Nat) (z : ZaY) (o : Option Int) (w : World) (h : ZcO w Ar Az Al As cr cz cl cs a) (hn : a.zones.length + a.links.length <= 1000000) (m : MnOk a) (ht : tOk t = true) (hz : ZbI a name = (((i : Nat) : Int), 0)) (hi : a.zones[i]? = some z) (hW : WkOk a z)
  (hv : evtD (ruEr a.rules (eAt a.rules z.eras t)) (eAt a.rules z.eras t).off t = some o) :
  Does Tryz.prog 14 [srcV Ar Az Al As cr cz cl cs a, .string name, .int .i64 t] w (fun v O => v = .tuple #[.int .i64 ((nxD a.rules z.eras t).getD 0), .bool (nxD a.rules z.eras t).isSome, .int .i64 0] /\ O = []) := by
 have hmem := List.mem_of_getElem? hi
 have h2 := ZaP.1 ht
 obtain ⟨hnz, cs1, ⟨Ae, ce, hEz, rfl⟩, hcz⟩ := h.A.z i _ hi
 obtain ⟨r, hr⟩ := m.sp z hmem
 obtain ⟨x, a1, a2, a3, a4, a5, a6⟩ := ZeI hr (m.ne z hmem) (t := t) (by omega) (by omega)
 obtain ⟨e, he, hd⟩ := Ze1 (d := dE0) a1
 have hfol : ZaK a (a.links.length + 1) [] name = (i, 0) := by
  unfold ZbI at hz
  rw [m.acc] at hz
  dsimp only at hz
  have q1 := congrArg Prod.fst hz
  have q2 := congrArg Prod.snd hz
  dsimp only at q1 q2
  exact Prod.ext (by dsimp only; omega) q2
 have hnxd : nxD a.rules z.eras t = Zdt x.fin o := by
  unfold nxD Ze4
  rw [hr, hv]
  dsimp only
  rw [a3]
  rfl
 rw [hnxd]
 unfold eAt at hv
 rw [hd] at hv
 have hem := List.mem_of_getElem? he
 have hfo := fun w' (hw : Bel w.heap.size w w') => Znr Ar Az Al As cr cz cl cs a name i z r Ae ce w' (h.up hw) m.acc hn hfol hi hnz (hcz.up hw (Nat.le_refl _)) (hEz.up hw) (m.un z hmem) hr
 unfold FdR at hfo
 have hnx := fun (p : PaL) w' (hw : Bel w.heap.size w w') (q1 : p.Ae = Ae) (q2 : p.ce = ce) (hs : RdSl w' p.As p.cs ZaI.enc 3 r) (hu : RdLL w' p.Ar p.cr Zaa.enc 11 (z.eras.map (ruEr a.rules))) => ZiN p a.rules z.eras r t _ x e o w' (h.G.up hw) ⟨by rw [q1, q2]; exact hEz.up hw, hs, hu⟩ a3 a4 he (hW.rs e hem) (hW.of e hem) (by omega) hv
 unfold optV at hnx
 have e3 : (!decide ((0 : Int) = 0)) = false := rfl
 have e4 := e3
 generalize Zdt x.fin o = res at *
 simp only [PaL.cells] at hfo hnx
 refine Zab Tryz.func14 rfl rfl rfl rfl ?_
 repeat (first | (refine js ?_; (first | (refine Zac (fun w' _ => Za8 t w') ?_) | (refine bx ?_; intro bk))) | refine walk ?_)
 rw [ht]
 repeat (first | (apply RL_pu; rfl; exact Zra) | (refine js ?_; (first | (apply Zag (h := fun w' hw _ => hfo w' hw); rfl; rintro v O' ⟨p, S, hp1, hp2, rfl, rfl⟩) | (refine ZaF (fun w' hw hO => hnx p w' hw hp1 hp2 (ZaW ZaI.len (hO.of (A := .row (.slice p.As r.length p.cs) _ _ _ _) (by repeat' constructor))) (ZaA (hO.of (A := .fact S _) (by repeat' constructor)))) ?_) | (refine bx ?_; intro bk))) | refine walk1 ?_)
 exact ZfD _ _ _ [] (.tmp rfl) (.tmp rfl) (.tmp rfl) .nil ⟨rfl, rfl⟩
end Go.Proofs.YtpcpmndldgejiaaGreatDoor
namespace Go.Wk
open Go Go.RowKit
def Zw5 (P : Program) (o : Oper) : Prop := (∀ c, o.op ≠ .defer c) /\ ∀ (a : Act) (w : World), calm ((execOp a.eval o).run P w)
def Zpf : Op -> Bool
 | .extract .. | .lookup .. | .mapUpdate .. | .insert .. | .buildSlice .. | .makeMap .. => true
 | o => ZkV o
theorem ZwE {P : Program} {ρ : Operand -> Value} {o : Oper} (h : Zpf o.op = true) (w : World) : calm ((execOp ρ o).run P w) := by
 obtain ⟨dst, op, ty, pos, af, g⟩ := o
 cases op <;> first | (cases h; done) | exact Zxk _ w | exact Zxl _ w | (refine ZcM ?_ w; exact h)
theorem ZlV {o : Oper} (h : Zpf o.op = true) : ∀ c, o.op ≠ .defer c := by
 intro c hc
 rw [hc] at h
 cases h
inductive Calms (P : Program) : List Oper -> Prop
 | nil : Calms P []
 | plain {o : Oper} {l : List Oper} : Zpf o.op = true -> Calms P l -> Calms P (o :: l)
 | call {dst : Option Tmp} {f : FuncId} {xs : List Operand} {ts : Array TypeId} {ty : TypeId} {pos : String} {af : Array Edge} {g : Option (Nat × Bool)} {l : List Oper} [Body P f] : Calms P l -> Calms P (⟨dst, .call ⟨.value (.func f), xs.toArray, ts⟩, ty, pos, af, g⟩ :: l)
 | append {dst : Option Tmp} {x y : Operand} {ts : Array TypeId} {ty : TypeId} {pos : String} {af : Array Edge} {g : Option (Nat × Bool)} {l : List Oper} : Calms P l -> Calms P (⟨dst, .call ⟨.builtin .append, #[x, y], ts⟩, ty, pos, af, g⟩ :: l)
 | len {dst : Option Tmp} {x : Operand} {ts : Array TypeId} {ty : TypeId} {pos : String} {af : Array Edge} {g : Option (Nat × Bool)} {l : List Oper} : Calms P l -> Calms P (⟨dst, .call ⟨.builtin .len, #[x], ts⟩, ty, pos, af, g⟩ :: l)
theorem ZwF {P : Program} {dst : Option Tmp} {x : Operand} {ts : Array TypeId} {ty : TypeId} {pos : String} {af : Array Edge} {g : Option (Nat × Bool)} (a : Act) (w : World) : calm ((execOp a.eval ⟨dst, .call ⟨.builtin .len, #[x], ts⟩, ty, pos, af, g⟩).run P w) := by
 simp only [execOp, resolve, invoke, builtin, Sem.run_bind, Sem.run_pure, Result.andThen_ok]
 generalize Sem.run P _ w = r
 cases r <;> simp [calm, Result.andThen]
theorem Calms.all {P : Program} {l : List Oper} (h : Calms P l) : ∀ o ∈ l, Zw5 P o := by
 induction h with
 | nil => intro o ho; cases ho
 | plain h1 _ ih =>
  intro o ho
  rcases List.mem_cons.1 ho with rfl | ho
  ·exact ⟨ZlV h1, fun a w => ZwE h1 w⟩
  ·exact ih o ho
 | call _ ih =>
  intro o ho
  rcases List.mem_cons.1 ho with rfl | ho
  ·exact ⟨fun c hc => (by cases hc), fun a w => Zui a w⟩
  ·exact ih o ho
 | append _ ih =>
  intro o ho
  rcases List.mem_cons.1 ho with rfl | ho
  ·exact ⟨fun c hc => (by cases hc), fun a w => Zpe a w⟩
  ·exact ih o ho
 | len _ ih =>
  intro o ho
  rcases List.mem_cons.1 ho with rfl | ho
  ·exact ⟨fun c hc => (by cases hc), fun a w => ZwF a w⟩
  ·exact ih o ho
section
variable {F : Fence} {P : Program} {n : Nat} {wr : World} {ops : Array Oper} {K : Fr -> List It -> Prop} {fr : Fr} {O : List It} {D : List Deferred}
theorem Zm6 (hF : WF F) {Q Q2 : Exit -> Act -> World -> Prop} (hQ : ∀ e a w, Q e a w -> e = .normal) (hK : ∀ a w, Q .normal a w -> Q2 .normal (actD D a) w) :
  ∀ (l : List Oper), (∀ o ∈ l, Zw5 P o) -> ∀ (a : Act) (w : World), wpList P ops Q l a w -> wpListIn F 0 P ops Q2 l (actD D a) w
 | [], _, a, w, h => hK _ _ h
 | o :: l, hc, a, w, h => by
  have hco := hc o List.mem_cons_self
  have ih := Zm6 hF hQ hK l fun o ho => hc o (List.mem_cons_of_mem _ ho)
  unfold wpList at h
  unfold wpListIn
  rw [show (actD D a).tmps = a.tmps from rfl]
  by_cases hw : Region.wanted o (yielded ops a.tmps) = true
  ·rw [if_pos hw] at h ⊢
   rcases h with h | ⟨_, h⟩
   ·exact Zli (a := a) hF rfl hco.1 (hco.2 a w) h hQ fun v w' hk => by
     rw [ZcA]
     exact ih _ _ hk
   ·obtain ⟨_, _, h2⟩ := h
    cases hQ _ _ _ h2
  ·rw [if_neg hw] at h ⊢
   refine ⟨fun f _ => hF.fn f, ?_⟩
   rw [ZcA]
   exact ih _ _ h
theorem ZbV {Q : Exit -> Fr -> List It -> Prop} {id : Nat} {l : List Oper} (hF : WF F) (hc : Calms P l) (h : RL P n wr l.toArray l (Q .normal) fr O) : WI F D P n wr (.region id l.toArray false) Q fr O := by
 intro a w hs
 refine wpIn_region_lit (Zm6 (D := D) hF (fun e a w he => he.1) ?_ l hc.all a w (h a w hs))
 rintro a' w' ⟨_, fr', O', hs', hq⟩
 refine ⟨rfl, fr', O', ?_, hq⟩
 rw [Zes hs']
 exact hs'
theorem Zus (hF : WF F) (hc : ∀ o ∈ ops.toList, Zw5 P o) {Q Q2 : Exit -> Act -> World -> Prop} (hQ : ∀ e a w, Q e a w -> e = .normal) (hK : ∀ a w, Q .normal a w -> Q2 .normal (actD D a) w) :
  ∀ (m : Nat) (listed : Array Bool) (a : Act) (w : World), wpAny P .any ops Q m listed a w -> wpAnyIn F 0 P .any ops Q2 m listed (actD D a) w := by
 intro m
 induction m with
 | zero => intro listed a w h; exact ⟨h.1, hK _ _ h.2⟩
 | succ m ih =>
  intro listed a w h
  refine ⟨fun hr => hK _ _ (h.1 hr), fun i hi => ?_⟩
  have h1 := h.2 i hi
  unfold wpOp at h1
  unfold wpOpIn
  cases ho : ops[i]? with
  | none => rw [ho] at h1; exact ih _ _ _ h1
  | some o =>
   rw [ho] at h1
   have hco : Zw5 P o := hc o (by
    rw [Array.mem_toList_iff]
    exact Array.mem_of_getElem? ho)
   dsimp only at h1 ⊢
   rw [show (actD D a).tmps = a.tmps from rfl]
   by_cases hw : Region.wanted o (yielded ops a.tmps) = true
   ·rw [if_pos hw] at h1 ⊢
    rcases h1 with h1 | ⟨_, h1⟩
    ·exact Zli (a := a) hF rfl hco.1 (hco.2 a w) h1 hQ fun v w' hk => by
      rw [ZcA]
      exact ih _ _ _ hk
    ·obtain ⟨_, _, h2⟩ := h1
     cases hQ _ _ _ h2
   ·rw [if_neg hw] at h1 ⊢
    refine ⟨fun f _ => hF.fn f, ?_⟩
    rw [ZcA]
    exact ih _ _ _ h1
theorem Zl0 {Q : Exit -> Fr -> List It -> Prop} {id : Nat} {l : List Oper} (hF : WF F) (hm : P.follows .mixedOrders = true) (hac : acyc l.toArray = true) (hc : Calms P l) (h : RD P n wr l.toArray (enum 0 l) [] [] (Q .normal) fr O) : WI F D P n wr (.region id l.toArray true) Q fr O := by
 intro a w hs
 have h1 := ZnQ hac h hs
 refine wpIn_region_any hm (Zus hF (fun o ho => hc.all o (by simpa using ho)) (fun e a w he => he.1) ?_ _ _ _ _ h1)
 rintro a' w' ⟨_, fr', O', hs', hq⟩
 refine ⟨rfl, fr', O', ?_, hq⟩
 have hs2 : St n wr fr' O' a' w' := by simpa using hs'
 rw [Zes hs2]
 exact hs2
end
theorem ResV.cell1 {P : Program} {wr : World} {fr : Fr} {O R : List It} {a t b sz : Nat} {v : Value} {cs : List Value} {bt : TypeId} [Ty P t sz false] (ha : look fr a = some (.pointer (some ⟨b, 0, none⟩))) (hp : Pick (.blk b (v :: cs) bt) O R) :
  ResV P wr fr O (.cell a t) v :=
 ⟨_, ha, fun w _ hO => Zc7 (by rw [Zcz (hO.sat _ (hp.perm.mem_iff.2 List.mem_cons_self))]; rfl)⟩
section
variable {P : Program} {n : Nat} {wr : World} {fr : Fr} {O : List It} {QQ : Exit -> Act -> World -> Prop}
def Pre (P : Program) (n : Nat) (wr : World) (c : Code) (QQ : Exit -> Act -> World -> Prop) (fr : Fr) (O : List It) : Prop := ∀ a w, St n wr fr O a w -> c.wp P QQ a w
def Zro (K : Fr -> List It -> Prop) : Exit -> Fr -> List It -> Prop
 | .normal => K
 | _ => fun _ _ => False
theorem Zcp {K : Fr -> List It -> Prop} (h : K fr O) : Zro K .normal fr O := h
theorem Zfd {x y : Code} (h : W P n wr x (Zro (Pre P n wr y QQ)) fr O) : Pre P n wr (.seq x y) QQ fr O := by
 intro a w hs
 refine wp_seq (wp_mono (h a w hs) ?_)
 rintro e a' w' ⟨fr', O', hs', hq⟩
 cases e with
 | normal => exact hq _ _ hs'
 | _ => exact hq.elim
theorem Zw1 {x y : Code} (K : Fr -> List It -> Prop) (h : W P n wr x (Zro K) fr O) (hk : ∀ fr' O', K fr' O' -> Pre P n wr y QQ fr' O') : Pre P n wr (.seq x y) QQ fr O := by
 intro a w hs
 refine wp_seq (wp_mono (h a w hs) ?_)
 rintro e a' w' ⟨fr', O', hs', hq⟩
 cases e with
 | normal => exact hk _ _ hq _ _ hs'
 | _ => exact hq.elim
theorem Zw3 {f : FuncId} {fn : Func} {c : Code} {args : List Value} {R : Ending -> World -> Prop} (n : Nat) (hf : P.funcs[f]? = some fn) (hb : fn.body = some c) (hn : fn.ntmps = n) (ha : Nat.ble args.length n = true)
  (h : Pre P n wr c (bodyPostM Fence.wide 0 P fn R) (Zfa 0 args) []) : Calls P f args.toArray wr R := Zle hf hb hn ha fun a hs => h a wr hs
theorem ZvO {c : Code} {b m : Nat} {cs : List Value} {t : TypeId} {O' : List It} (size : Nat) (hu : Upd O (.blk b cs t) (.row (.slice (some ⟨b, 0, none⟩) m m) t size m cs) O') (hc : cs.length = m * size) (hm : m <= maxLen) (h : Pre P n wr c QQ fr O') : Pre P n wr c QQ fr O :=
 fun a w hs => h a w ⟨hs.sim, hs.old, hs.own.toRow size hc hm hu⟩
theorem ZzE {c : Code} (e : TypeId) (size : Nat) (h : Pre P n wr c QQ fr (.row (.slice none 0 0) e size 0 [] :: O)) : Pre P n wr c QQ fr O :=
 fun a w hs => h a w ⟨hs.sim, hs.old, hs.own.rowNil e size⟩
theorem Zsp {c : Code} (O1 R : List It) (p : World -> Prop) (hs : SubO (O1 ++ R) O) (hp : ∀ w', (∀ i ∈ O1, i.sat w') -> p w') (h : Pre P n wr c QQ fr (.fact (foot O1) p :: R)) : Pre P n wr c QQ fr O :=
 fun a w st => h a w ⟨st.sim, st.old, (st.own.sub hs).fact hp⟩
theorem ZzD {c : Code} {fr' : Fr} {O' : List It} (hf : Sub fr' fr) (hO : SubO O' O) (h : Pre P n wr c QQ fr' O') : Pre P n wr c QQ fr O := fun a w hs => h a w (hs.sub hf hO)
theorem Pre.at {c : Code} {a : Act} {w : World} (h : Pre P n wr c QQ fr O) (hs : St n wr fr O a w) : c.wp P QQ a w := h a w hs
end
theorem ZuE {F : Fence} {D : List Deferred} {P : Program} {n : Nat} {wr : World} {fr : Fr} {O : List It} {Q : Exit -> Fr -> List It -> Prop} {x y : Code} (K : Fr -> List It -> Prop) (h : WI F D P n wr x (Zro K) fr O) (hk : ∀ fr' O', K fr' O' -> WI F D P n wr y Q fr' O') : WI F D P n wr (.seq x y) Q fr O := by
 refine ZbY fun a w hs => wpIn_mono (h a w hs) ?_
 rintro e a' w' ⟨hd, fr', O', hs', hq⟩
 cases e with
 | normal => exact ⟨hd, fr', O', hs', thenQ_n (hk _ _ hq)⟩
 | _ => exact hq.elim
theorem ZAc {F : Fence} {D : List Deferred} {P : Program} {n : Nat} {wr : World} {fr fr' : Fr} {O O' : List It} {Q : Exit -> Fr -> List It -> Prop} {c : Code} (hf : Sub fr' fr) (hO : SubO O' O) (h : WI F D P n wr c Q fr' O') : WI F D P n wr c Q fr O := fun a w hs => h a w (hs.sub hf hO)
end Go.Wk
set_option maxHeartbeats 4000000
namespace Go.Proofs.YtpcpmndldgejiaaGreatDoor
open Go Go.RowKit Go.Wk
attribute [local irreducible] W RL Does Zay Zam retQ Calls Pu Stp RD Qy Ay Zan RLI WI
def ZzO (p : PaL) (l : List DEra) (r : List ZaI) (a b : Int) (v : Value) (O : List It) : Prop := ∃ b3 b4 b5, v = .func (.func 64) #[] #[.pointer (some ⟨b3, 0, none⟩), .pointer (some ⟨b4, 0, none⟩), .pointer (some ⟨b5, 0, none⟩)] /\
 O = [.blk b3 (p.cells l r) 92, .blk b4 [.int .i64 a] 2, .blk b5 [.int .i64 b] 2]
theorem Zmv (p : PaL) (l : List DEra) (r : List ZaI) (a b : Int) (w : World) : Does Tryz.prog 28 [.agg (p.cells l r).toArray, .int .i64 a, .int .i64 b] w (ZzO p l r a b) := by
 refine Zab Tryz.func28 rfl rfl rfl rfl ?_
 simp only [PaL.cells]
 repeat (first | (refine js ?_; (refine bx ?_; intro bk)) | refine walk ?_)
 rename_i b3 b4
 exact ret_1 _ [.blk b3 (p.cells l r) 92, .blk b4 [.int .i64 a] 2, .blk bk [.int .i64 b] 2] (.tmp rfl) SOA ⟨b3, b4, bk, rfl, rfl⟩
def NxAt (rs : List Zaa) (E : List DEra) (r : List ZaI) (t : Int) : Prop := ∃ (k : Nat) (x : ZaI) (e : DEra) (o : Option Int), Zey r t = (x, true) /\ x.era = (k : Nat) /\ E[k]? = some e /\ RsSm (ruEr rs e) /\ (-1000000000 <= e.off /\ e.off <= 1000000000) /\ (-1000000000000000000 <= t /\ t <= 1000000000000000000) /\ evtD (ruEr rs e) e.off t = some o /\ nxD rs E t = Zdt x.fin o /\ ∀ u, nxD rs E t = some u -> t < u
theorem ZmQ (p : PaL) (rs : List Zaa) (E : List DEra) (r : List ZaI) (t : Int) (w : World) (hG : Glob w) (hP : Zoj w p rs E r) (h : NxAt rs E r t) :
  Does Tryz.prog 33 [.agg (p.cells E r).toArray, .int .i64 t] w (fun v O => v = optV (nxD rs E t) /\ O = []) := by
 obtain ⟨k, x, e, o, h1, h2, h3, h4, h5, h6, h7, h8, _⟩ := h
 rw [h8]
 exact ZiN p rs E r t k x e o w hG hP h1 h2 h3 h4 h5 h6 h7
def PaF (p : PaL) (rs : List Zaa) (E : List DEra) (r : List ZaI) (w : World) : Prop := RdSl w p.As p.cs ZaI.enc 3 r /\ RdLL w p.Ar p.cr Zaa.enc 11 (E.map (ruEr rs))
structure SpG (σ : Type) where
 t : Int
 s : σ
theorem Zx8 {G : Prop} (h : G := by (apply ZcN; rfl; rfl; exact d1)) : G := h
theorem Zou {σ : Type} (L b3 b4 b5 : Nat) (p : PaL) (rs : List Zaa) (E : List DEra) (r : List ZaI) (a b : Int) (S : Nat -> Prop) (OC : σ -> List It) (G : Int -> Prop) (Inv : Int -> σ -> Prop) (wr : World) (s0 : σ) (h0 : Inv a s0) (hG : Glob wr) (hE : RdSl wr p.Ae p.ce DEra.enc 13 E)
  (hGa : G a) (hGs : ∀ t u, G t -> nxD rs E t = some u -> u <= b -> G u) (hN : ∀ t, G t -> NxAt rs E r t)
  (hY : ∀ (t u : Int) (s : σ), G t -> G u -> nxD rs E t = some u -> t < u -> u <= b -> Inv t s -> Zet Tryz.prog L (.int .i64 u) wr (.blk b3 (p.cells E r) 92 :: .blk b4 [.int .i64 a] 2 :: .blk b5 [.int .i64 b] 2 :: .fact S (PaF p rs E r) :: OC s) fun bb O' => bb = true /\ ∃ s', Inv u s' /\ SubO (.blk b3 (p.cells E r) 92 :: .blk b4 [.int .i64 a] 2 :: .blk b5 [.int .i64 b] 2 :: .fact S (PaF p rs E r) :: OC s') O') :
  Zan Tryz.prog 64 [.func (.yield L) #[] #[], .pointer (some ⟨b3, 0, none⟩), .pointer (some ⟨b4, 0, none⟩), .pointer (some ⟨b5, 0, none⟩)] wr (.blk b3 (p.cells E r) 92 :: .blk b4 [.int .i64 a] 2 :: .blk b5 [.int .i64 b] 2 :: .fact S (PaF p rs E r) :: OC s0)
   (fun v O' => v = .tuple #[] /\ ∃ t s', G t /\ Inv t s' /\ (∀ u, nxD rs E t = some u -> b < u) /\ SubO (.blk b3 (p.cells E r) 92 :: .blk b4 [.int .i64 a] 2 :: .blk b5 [.int .i64 b] 2 :: .fact S (PaF p rs E r) :: OC s') O') := by
 have hPA : ∀ w', Bel wr.heap.size wr w' -> PaF p rs E r w' -> Zoj w' p rs E r := fun w' hw hf => ⟨hE.up hw, hf.1, hf.2⟩
 refine ZbH Tryz.func64 rfl rfl rfl rfl ?_
 simp only [PaL.cells] at *
 have hnx := hN a hGa
 obtain ⟨o, ho⟩ : ∃ o, nxD rs E a = o := ⟨_, rfl⟩
 repeat (first | (refine js ?_; (apply Zag (h := fun w' hw hO => ZmQ p rs E r _ w' (hG.up hw) (hPA w' hw (ZaA (hO.of (A := .fact S (PaF p rs E r)) (by repeat' constructor)))) hnx); rfl; (rw [show optV (nxD rs E _) = optV o from congrArg optV ho]; rintro v O' ⟨rfl, rfl⟩))) | refine walk ?_)
 subst ho
 refine Zaq [(0, .func (.yield L) #[] #[]), (1, .pointer (some ⟨b3, 0, none⟩)), (2, .pointer (some ⟨b4, 0, none⟩)), (3, .pointer (some ⟨b5, 0, none⟩))] [] (fun g : SpG σ => [(5, .int .i64 ((nxD rs E g.t).getD 0)), (6, .bool (nxD rs E g.t).isSome)])
  (fun g => .blk b3 [.slice p.Ae E.length p.ce, .slice p.As r.length p.cs, .slice p.Ar E.length p.cr] 92 :: .blk b4 [.int .i64 a] 2 :: .blk b5 [.int .i64 b] 2 :: .fact S (PaF p rs E r) :: OC g.s) (fun g => G g.t /\ Inv g.t g.s) (fun g => (b - g.t).toNat) ⟨a, s0⟩ SFA ?_ ⟨hGa, h0⟩ ?_
 ·rw [List.append_nil]; exact .refl _
 rintro ⟨t, s⟩ ⟨ht, hi⟩
 dsimp only at ht hi ⊢
 rw [List.append_nil]
 have hnt := hN t ht
 obtain ⟨q, hq⟩ : ∃ q, nxD rs E t = q := ⟨_, rfl⟩
 have hlt : ∀ u, q = some u -> t < u := fun u hu => by
  obtain ⟨_, _, _, _, _, _, _, _, _, _, _, _, h9⟩ := hnt
  exact h9 u (hq.trans hu)
 rw [hq]
 rcases q with _ | u
 ·dsimp only [Option.getD, Option.isSome]
  repeat (first | refine walk ?_)
  exact Zs4 _ (.refl _) ⟨rfl, t, s, ht, hi, fun u hu => (by rw [hq] at hu; cases hu), .refl _⟩
 ·have htu := hlt u rfl
  dsimp only [Option.getD, Option.isSome]
  rcases Int.lt_or_le b u with hbu | hbu
  ·have d1 : decide (u <= b) = false := decide_eq_false (by omega)
   repeat (first | (apply RL_pu; rfl; exact Zx8) | refine walk1 ?_)
   exact Zs4 _ (.refl _) ⟨rfl, t, s, ht, hi, fun v hv => (by rw [hq] at hv; cases hv; exact hbu), .refl _⟩
  ·have d1 : decide (u <= b) = true := decide_eq_true hbu
   have hgu := hGs t u ht hq hbu
   have hnx := hN u hgu
   obtain ⟨o, ho⟩ : ∃ o, nxD rs E u = o := ⟨_, rfl⟩
   have hy := hY t u s ht hgu hq htu hbu hi
   repeat (first | (apply ZgY; rfl; rfl; rfl; (intro c h; cases h); rfl; (apply Pu_move; rfl); rfl; rfl; exact hy; rintro bb O' ⟨rfl, s', hi', hO'⟩) | (apply RL_pu; rfl; exact Zx8) | refine walk1 ?_)
   apply ZcS (.inl rfl); rfl; (intro c h; cases h); (apply Pu_not; rfl)
   refine Zbu ?_
   apply thenQ_n
   refine Zah rfl (fun h => (by cases h)) (fun h => ?_)
   refine Zch (fr' := [(0, .func (.yield L) #[] #[]), (1, .pointer (some ⟨b3, 0, none⟩)), (2, .pointer (some ⟨b4, 0, none⟩)), (3, .pointer (some ⟨b5, 0, none⟩)), (5, .int .i64 u)]) (O' := .blk b3 [.slice p.Ae E.length p.ce, .slice p.As r.length p.cs, .slice p.Ar E.length p.cr] 92 :: .blk b4 [.int .i64 a] 2 :: .blk b5 [.int .i64 b] 2 :: .fact S (PaF p rs E r) :: OC s') SFA hO' ?_
   repeat (first | (refine js ?_; (apply Zag (h := fun w' hw hO => ZmQ p rs E r _ w' (hG.up hw) (hPA w' hw (ZaA (hO.of (A := .fact S (PaF p rs E r)) (by repeat' constructor)))) hnx); rfl; (rw [show optV (nxD rs E _) = optV o from congrArg optV ho]; rintro v O' ⟨rfl, rfl⟩))) | refine walk ?_)
   subst ho
   exact ⟨⟨u, s'⟩, by dsimp only; omega, ⟨hgu, hi'⟩, SFA, by rw [List.append_nil]; exact .refl _⟩
end Go.Proofs.YtpcpmndldgejiaaGreatDoor
namespace Go.Wk
open Go Go.RowKit
section
variable {κ : Type} [DecidableEq κ] {kv : κ -> Value}
variable {P : Program} {n : Nat} {wr : World} {fr : Fr} {O : List It} {ty : TypeId} {pos : String} {af : Array Edge} {dst : Option Tmp} {g : Option (Nat × Bool)} {Kp : Value -> List It -> Prop}
theorem ZoA {t kt et b : Nat} {l : List (κ × Int)} {w : World} [hM : MapT P t kt et] [hK : KeyT P kt κ kv] [ZeroV P et (.int .i64 0)] (h : (cmIt kv b l).sat w) (k : κ) : (Instr.lookup t (.map (some b)) (kv k) true).run P w = .ok (.tuple #[.int .i64 (cget k l), .bool (decide (k ∈ l.map (·.1)))]) w := by
 have h1 := cmIt.heap h
 have hu := run_underlying (w := w) (MapT.parts hM.h)
 have ha := hK.ask k l w
 have hz := ZeJ (P := P) (t := et) (v := .int .i64 0) (w := w)
 have hc := fun b => hK.chk b k w
 obtain ⟨es, he⟩ : ∃ es : Array MapEntry, es = (cent kv 0 l).toArray := ⟨_, rfl⟩
 rw [<- he] at h1
 have hl : es.toList = cent kv 0 l := by rw [he]
 simp only [Instr.lookup, Sem.run_bind, hu, Result.andThen_ok, Zbc (P := P) h1, Sem.run_pure, hc, hl, ha]
 rw [ZgP]
 by_cases hm : k ∈ l.map (·.1)
 ·rw [if_pos hm, decide_eq_true hm]
  simp
 ·rw [if_neg hm, ZdF k l hm, decide_eq_false hm]
  simp [hz]
theorem Zso {t kt et b : Nat} {x ix : Operand} {l : List (κ × Int)} {k : κ} {v : Int} {c : Bool} {R : List It} [hM : MapT P t kt et] [hK : KeyT P kt κ kv] [ZeroV P et (.int .i64 0)] (hx : ev fr x = some (.map (some b))) (hi : ev fr ix = some (kv k)) (hp : Pick (cmIt kv b l) O R) (hv : cget k l = v) (hc : decide (k ∈ l.map (·.1)) = c) :
  Pu P n wr fr O (.lookup t x ix true) ty (.tuple [.int .i64 v, .bool c].toArray) := fun a w hs _ _ _ _ => by
 have := ZoA (P := P) (t := t) (kt := kt) (et := et) (hs.own.sat _ (hp.perm.mem_iff.2 List.mem_cons_self)) k
 simp only [execOp, hs.sim.ev hx, hs.sim.ev hi, Sem.run_bind, this, Result.andThen_ok, Sem.run_pure, hv, hc]
theorem Zqa {t kt et b : Nat} {l : List (κ × Int)} {w : World} [hM : MapT P t kt et] [hK : KeyT P kt κ kv] (h : (cmIt kv b l).sat w) (k : κ) (v : Int) (hk : k ∉ l.map (·.1)) : (Instr.mapUpdate t (.map (some b)) (kv k) (.int .i64 v)).run P w =
  .ok () { w with heap := w.heap.setIfInBounds b (.map (cent kv 0 (l ++ [(k, v)])).toArray (l ++ [(k, v)]).length) } := by
 have h1 := cmIt.heap h
 have hu := run_underlying (w := w) (MapT.parts hM.h)
 have ha := hK.ask k l w
 have hc := fun b => hK.chk b k w
 obtain ⟨es, he⟩ : ∃ es : Array MapEntry, es = (cent kv 0 l).toArray := ⟨_, rfl⟩
 rw [<- he] at h1
 have hl : es.toList = cent kv 0 l := by rw [he]
 simp only [Instr.mapUpdate, Sem.run_bind, hu, Result.andThen_ok, Zbc (P := P) h1, Sem.run_pure, hc, hl, ha]
 rw [ZgP, if_neg hk]
 have hp : (es.push { key := kv k, val := .int .i64 v, born := l.length }) = (cent kv 0 (l ++ [(k, v)])).toArray := by
  rw [he, ZlU, Nat.zero_add]
  simp [cent]
 rw [<- hp]
 simp [setObj, Sem.run, h1]
theorem ZgZ {t kt et b : Nat} {x ix y : Operand} {l l' : List (κ × Int)} {k : κ} {v : Int} {O' : List It} [hM : MapT P t kt et] [hK : KeyT P kt κ kv] (hx : ev fr x = some (.map (some b))) (hi : ev fr ix = some (kv k)) (hy : ev fr y = some (.int .i64 v)) (hk : k ∉ l.map (·.1)) (hl : l ++ [(k, v)] = l') (hu : Upd O (cmIt kv b l) (cmIt kv b l') O')
  (kk : Kp undef O') : Stp P n wr fr O ⟨dst, .mapUpdate t x ix y, ty, pos, af, g⟩ Kp :=
 Zft fun a w hst => by
  subst hl
  have h2 := setC hst hu
  refine ⟨_, O', ?_, h2.1, h2.2, kk⟩
  have := Zqa (P := P) (t := t) (kt := kt) (et := et) (hst.own.sat _ hu.mem) k v hk
  simp only [execOp, hst.sim.ev hx, hst.sim.ev hi, hst.sim.ev hy, Sem.run_bind, this, Result.andThen_ok, Sem.run_pure]
theorem Zd6 {t kt et b : Nat} {x ix y : Operand} {l l' : List (κ × Int)} {k : κ} {v : Int} {O' : List It} [hM : MapT P t kt et] [hK : KeyT P kt κ kv] (hx : ev fr x = some (.map (some b))) (hi : ev fr ix = some (kv k)) (hy : ev fr y = some (.int .i64 v)) (hk : k ∉ l.map (·.1)) (hl : l ++ [(k, v)] = l') (hu : Upd O (cmIt kv b l) (cmIt kv b l') O')
  (kk : Kp undef O') : Stp P n wr fr O ⟨dst, .insert t x ix y, ty, pos, af, g⟩ Kp :=
 Zft fun a w hst => by
  subst hl
  have h2 := setC hst hu
  refine ⟨_, O', ?_, h2.1, h2.2, kk⟩
  have := Zqa (P := P) (t := t) (kt := kt) (et := et) (hst.own.sat _ hu.mem) k v hk
  simp only [execOp, hst.sim.ev hx, hst.sim.ev hi, hst.sim.ev hy, Sem.run_bind, this, Result.andThen_ok, Sem.run_pure]
end
end Go.Wk
