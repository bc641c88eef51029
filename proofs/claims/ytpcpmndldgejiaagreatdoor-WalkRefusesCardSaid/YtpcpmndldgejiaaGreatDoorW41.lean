/- Parts of the proof. -/
import Derived.Test.YtpcpmndldgejiaaGreatDoorW22
import Derived.Test.YtpcpmndldgejiaaGreatDoorW08
import Derived.Test.YtpcpmndldgejiaaGreatDoorW25
import Derived.Test.YtpcpmndldgejiaaGreatDoorW29
import Derived.Test.YtpcpmndldgejiaaGreatDoorW14
import Derived.Test.YtpcpmndldgejiaaGreatDoorW23
import Derived.Test.YtpcpmndldgejiaaGreatDoorRows
import Derived.LaidSub
import Derived.SevenTiedAt
import Derived.JoinedOf
import Derived.KernelRfl
set_option maxHeartbeats 4000000
set_option linter.unusedVariables false
set_option linter.unusedSimpArgs false
namespace Go.Proofs.YtpcpmndldgejiaaGreatDoor
open Go Go.RowKit Go.Wk
def qN : ByteArray := ⟨#[63]⟩
def badF (s : Zai) (z : ZaY) (e : DEra) : Zai := ⟨s.rules, s.zones.set 0 ⟨z.name, z.eras.set 0 { e with format := qN }⟩, s.links, s.shifts⟩
theorem ZrZ {rs : List Zaa} {e : DEra} {f : Bool} (h : ZdE rs e f = 0) (F : ByteArray) (hF : ZbZ F.data.toList = 0) : ZdE rs { e with format := F } f = 15 := by
 have q1 : Zbm rs { e with format := F } = Zbm rs e := rfl
 have q2 : ZaR rs { e with format := F } = ZaR rs e := rfl
 have q3 : ZeG { e with format := F } = ZeG e := rfl
 unfold ZdE at h ⊢
 rw [q1, q2, q3]
 dsimp only
 split at h
 ·cases h
 rename_i h1
 rw [if_neg h1]
 split at h
 ·cases h
 rename_i h2
 rw [if_neg h2]
 split at h
 ·cases h
 rename_i h3
 rw [if_neg h3]
 split at h
 ·cases h
 rename_i h4
 rw [if_neg h4]
 split at h
 ·cases h
 rename_i h5
 rw [if_neg h5]
 split at h
 ·cases h
 rename_i h6
 rw [if_neg h6]
 unfold ZhS
 exact if_pos hF
theorem ZmG {α : Type} {l : List α} {k : Nat} {x : α} (h : l[k]? = some x) : l.set k x = l := by
 obtain ⟨h1, rfl⟩ := List.getElem?_eq_some_iff.1 h
 exact List.set_getElem_self h1
theorem ZwH (d : DD23) {z : ZaY} {e : DEra} (hz : (Zap d).zones[0]? = some z) (he : z.eras[0]? = some e) : accD (badF (Zap d) z e) = some (⟨2, 0, 0⟩, 15) := by
 obtain ⟨Y, hY⟩ := ZaX d z (List.mem_of_getElem? hz)
 have hl0 : 0 < z.eras.length := by have := hY.len; omega
 have hd : z.eras.getD 0 dE0 = e := by rw [List.getD_eq_getElem?_getD, he]; rfl
 have hchk := hY.eraOk hl0
 rw [hd] at hchk
 have h15 := ZrZ hchk qN (by decide +kernel)
 have h1 := ZeU d
 have hsz : ZcQ (badF (Zap d) z e) = none := by
  have hl := hY.len
  have hlen : ((Zap d).zones.set 0 ⟨z.name, z.eras.set 0 { e with format := qN }⟩).length = (Zap d).zones.length := List.length_set
  have hf : (badF (Zap d) z e).zones.findIdx? (fun z => decide (60 < z.eras.length)) = none := by
   rw [List.findIdx?_eq_none_iff]
   intro x hx
   rcases List.mem_or_eq_of_mem_set (show x ∈ (Zap d).zones.set 0 _ from hx) with hx | rfl
   ·obtain ⟨Y, h⟩ := ZaX d x hx
    have := h.len
    exact decide_eq_false (by omega)
   ·dsimp only
    rw [List.length_set]
    exact decide_eq_false (by omega)
  have hnz := Zdf d
  have hz3 := (ZbK d.zones).2
  have hnl := ZeV d
  have hr := (ZbU d).nr
  have hs := (ZbU d).ns
  unfold ZcQ
  rw [if_neg (by show ¬ 2000 < (Zap d).rules.length; omega), if_neg (by show ¬ 500 < ((Zap d).zones.set 0 _).length; rw [List.length_set]; omega), hf]
  dsimp only
  rw [if_neg (by show ¬ 1000 < (Zap d).links.length; omega), if_neg (by show ¬ 2000 < (Zap d).shifts.length; omega)]
 have hlk : Zb7 (badF (Zap d) z e) = none := by
  rw [Zeg, show Ze9 (badF (Zap d) z e) = Ze9 (Zap d) from ?_, <- Zeg]
  ·exact ZhL d
  ·unfold Ze9 badF
   dsimp only
   rw [List.map_set, ZmG (by rw [List.getElem?_map, hz]; rfl)]
 have hzg : ZbM (badF (Zap d) z e).rules (badF (Zap d) z e).zones 0 = some (⟨2, 0, 0⟩, 15) := by
  unfold badF
  dsimp only
  have hzs : 0 < (Zap d).zones.length := (List.getElem?_eq_some_iff.1 hz).1
  generalize (Zap d).zones = zs at hzs ⊢
  rcases zs with _ | ⟨y, zs⟩
  ·cases hzs
  ·rw [List.set_cons_zero, ZbM]
   dsimp only
   have hne : z.eras.set 0 { e with format := qN } ≠ [] := fun hh => by
    have := congrArg List.length hh
    rw [List.length_set, List.length_nil] at this
    omega
   obtain ⟨n, hn⟩ : ∃ n, z.eras.length = n + 1 := ⟨z.eras.length - 1, by omega⟩
   have hg : (z.eras.set 0 { e with format := qN }).getD 0 dE0 = { e with format := qN } := by
    rw [List.getD_eq_getElem?_getD, List.getElem?_set_self hl0]
    rfl
   rw [if_neg hne, List.length_set, hn, ZdD, hg, if_pos (by rw [show decide (0 = 0) = true from rfl] at h15 ⊢; rw [h15]; decide), h15]
   rfl
 unfold accD
 rw [hsz, show Zh6 (badF (Zap d) z e) = none from Zf7 d, hlk, hzg]
 rfl
theorem ZwG (d : DD23) {z : ZaY} {e : DEra} (hz : (Zap d).zones[0]? = some z) (he : z.eras[0]? = some e) : Sml (badF (Zap d) z e) := by
 have h := ZbU d
 obtain ⟨h1, h2, h3⟩ := h.zs z (List.mem_of_getElem? hz)
 have h4 := h3 e (List.mem_of_getElem? he)
 refine ⟨h.nr, ?_, h.nl, h.ns, h.rs, fun x hx => ?_, h.ls⟩
 ·show ((Zap d).zones.set 0 _).length <= 100
  rw [List.length_set]
  exact h.nz
 ·rcases List.mem_or_eq_of_mem_set (show x ∈ (Zap d).zones.set 0 _ from hx) with hx | rfl
  ·exact h.zs x hx
  ·refine ⟨h1, by dsimp only; rw [List.length_set]; exact h2, fun y hy => ?_⟩
   rcases List.mem_or_eq_of_mem_set hy with hy | rfl
   ·exact h3 y hy
   ·exact ⟨h4.set, (by show qN.size <= 100; decide), h4.off, h4.save, h4.kind⟩
theorem Zqm : ∀ nz : Fin 4, ∀ nl : Fin 5, ∀ y ∈ Zfn nz.val nl.val, y ≠ qN /\ y ≠ ByteArray.empty := by decide +kernel
def ZvQ (i : Nat) (s : Zai) (v : Value) (O : List It) : Prop :=
 ∃ (Ar : Option Addr) (cr : Nat) (Az : Option Addr) (cz : Nat) (Al : Option Addr) (cl : Nat) (As : Option Addr) (cs : Nat) (Zs : List ZE) (S : Nat -> Prop) (q : ZE), v = srcV Ar Az Al As cr cz cl cs s /\ Zs.map ZE.z = s.zones /\ Zs[i]? = some q /\ O = [rowR Ar cr s.rules, .row (.slice Az s.zones.length cz) 54 2 s.zones.length (Zs.flatMap ZE.enc), rowL Al cl s.links, rowS As cs s.shifts, ZbD q, .fact S (ZaQ (Zs.eraseIdx i))]
theorem ZkO {α : Type} : ∀ {l : List α} {i : Nat} (h : i < l.length), l.Perm (l[i] :: l.eraseIdx i)
 | x :: l, 0, _ => List.Perm.refl _
 | x :: l, i + 1, h => ((ZkO (l := l) (i := i) (by simpa using h)).cons x).trans (List.Perm.swap _ _ _)
theorem ZrC {i : Nat} {s : Zai} {v : Value} {O : List It} (h : ZpT s v O) (hi : i < s.zones.length) : ∃ O', ZvQ i s v O' /\ ∀ base w', Zax base O w' -> Zax base O' w' := by
 obtain ⟨Ar, cr, Az, cz, Al, cl, As, cs, Zs, rfl, hz, rfl⟩ := h
 have hi2 : i < Zs.length := by rw [<- hz, List.length_map] at hi; exact hi
 refine ⟨_, ⟨Ar, cr, Az, cz, Al, cl, As, cs, Zs, foot ((Zs.eraseIdx i).map ZbD), Zs[i], rfl, hz, List.getElem?_eq_getElem hi2, rfl⟩, fun base w' hH => ?_⟩
 have hp : (Zs.map ZbD).Perm (ZbD Zs[i] :: (Zs.eraseIdx i).map ZbD) := (ZkO hi2).map ZbD
 have h0 : Zax base ((Zs.eraseIdx i).map ZbD ++ [rowR Ar cr s.rules, rowZ Az cz Zs, rowL Al cl s.links, rowS As cs s.shifts, ZbD Zs[i]]) w' :=
  hH.perm ((((hp.cons _).cons _).cons _).cons _ |>.trans (List.perm_append_comm (l₁ := [rowR Ar cr s.rules, rowZ Az cz Zs, rowL Al cl s.links, rowS As cs s.shifts, ZbD Zs[i]])))
 have h2 := h0.fact (p := ZaQ (Zs.eraseIdx i)) (fun w2 hi q hq => ZaW DEra.len (hi (ZbD q) (List.mem_map.2 ⟨q, hq, rfl⟩)))
 have e : It.row (.slice Az s.zones.length cz) 54 2 s.zones.length (Zs.flatMap ZE.enc) = rowZ Az cz Zs := by rw [<- hz, List.length_map]
 rw [e]
 exact h2.perm (List.perm_append_comm (l₁ := [_]) (l₂ := [rowR Ar cr s.rules, rowZ Az cz Zs, rowL Al cl s.links, rowS As cs s.shifts, ZbD Zs[i]]))
theorem ZlC {α : Type} {l : List α} {i : Nat} {a x : α} (h : x ∈ l.set i a) : x = a \/ x ∈ l.eraseIdx i := by
 obtain ⟨j, hj⟩ := List.getElem?_of_mem h
 by_cases hji : i = j
 ·subst hji
  have hl : i < l.length := by
   have := (List.getElem?_eq_some_iff.1 hj).1
   rwa [List.length_set] at this
  rw [List.getElem?_set_self hl] at hj
  exact .inl (Option.some.inj hj).symm
 ·rw [List.getElem?_set_ne hji] at hj
  obtain ⟨hl, hx⟩ := List.getElem?_eq_some_iff.1 hj
  exact .inr (List.mem_eraseIdx_iff_getElem.2 ⟨j, hl, fun e => hji e.symm, hx⟩)
theorem ZgH {α β : Type} (f : α -> List β) : ∀ (l : List α) (i : Nat) (a b : α), l[i]? = some b -> f a = f b -> (l.set i a).flatMap f = l.flatMap f
 | [], i, a, b, h, _ => by simp at h
 | x :: l, 0, a, b, h, hf => by
  simp only [List.getElem?_cons_zero, Option.some.injEq] at h
  subst h
  rw [List.set_cons_zero, List.flatMap_cons, List.flatMap_cons, hf]
 | x :: l, i + 1, a, b, h, hf => by
  rw [List.set_cons_succ, List.flatMap_cons, List.flatMap_cons, ZgH f l i a b (by simpa using h) hf]
theorem Zi2 (a : List Value) : ∀ (vs cs : List Value) (j : Nat), lay (a ++ cs) (a.length + j) vs = a ++ lay cs j vs
 | [], _, _ => rfl
 | v :: r, cs, j => by
  rw [lay, lay, List.set_append_right _ _ (by omega), Nat.add_sub_cancel_left, Nat.add_assoc, Zi2 a r _ (j + 1)]
theorem ZkD (c : List Value) : ∀ (vs a : List Value) (j : Nat), j + vs.length <= a.length -> lay (a ++ c) j vs = lay a j vs ++ c
 | [], _, _, _ => rfl
 | v :: r, a, j, h => by
  simp only [List.length_cons] at h
  rw [lay, lay, List.set_append_left _ _ (by omega), ZkD c r _ (j + 1) (by rw [List.length_set]; omega)]
theorem ZkK {α : Type} {enc : α -> List Value} {sz : Nat} (hsz : ∀ x, (enc x).length = sz) (off : Nat) (vs : List Value) (hb : off + vs.length <= sz) (x y : α) (he : lay (enc x) off vs = enc y) : ∀ (l : List α) (k : Nat), l[k]? = some x -> lay (l.flatMap enc) (k * sz + off) vs = (l.set k y).flatMap enc
 | [], k, h => by simp at h
 | z :: l, 0, h => by
  simp only [List.getElem?_cons_zero, Option.some.injEq] at h
  subst h
  rw [List.flatMap_cons, List.set_cons_zero, List.flatMap_cons, <- he, Nat.zero_mul, Nat.zero_add, ZkD _ _ _ _ (by rw [hsz]; exact hb)]
 | z :: l, k + 1, h => by
  have ih := ZkK hsz off vs hb x y he l k (by simpa using h)
  rw [List.flatMap_cons, List.set_cons_succ, List.flatMap_cons, <- ih, show (k + 1) * sz + off = (enc z).length + (k * sz + off) by rw [hsz, Nat.add_mul]; omega, Zi2]
structure Sml0 (s : Zai) : Prop where
 nr : s.rules.length <= 100
 nz : s.zones.length <= 100
 nl : s.links.length <= 101
 ns : s.shifts.length <= 100
 rs : ∀ r ∈ s.rules, (r.name.size <= 100 /\ r.letter.size <= 100) /\ -9223372036854775808 <= r.save /\ r.save <= 9223372036854775807
 zs : ∀ z ∈ s.zones, z.name.size <= 100 /\ z.eras.length <= 100 /\ ∀ e ∈ z.eras, SmE e
 ls : ∀ l ∈ s.links, l.target.size <= 100 /\ l.name.size <= 100
theorem Sml.zero {s : Zai} (h : Sml s) : Sml0 s where
 nr := h.nr
 nz := h.nz
 nl := by have := h.nl; omega
 ns := h.ns
 rs := fun r hr => by obtain ⟨h1, h2, h3, h4⟩ := h.rs r hr; exact ⟨⟨h1, h2⟩, by omega, by omega⟩
 zs := h.zs
 ls := h.ls
attribute [local irreducible] W RL Does Zay Zam retQ Calls Pu Stp RD Qy Ay Zan RLI WI Pre Zap
theorem ZsN {w : World} {Ar Az Al As : Option Addr} {cr cz cl cs i : Nat} {Zs : List ZE} {S : Nat -> Prop} {q : ZE} {s : Zai} {es : List DEra} (hz : Zs.map ZE.z = s.zones) (hq : Zs[i]? = some q) (hes : es.length = q.z.eras.length)
  (h1 : (rowR Ar cr s.rules).sat w) (h2 : (It.row (.slice Az s.zones.length cz) 54 2 s.zones.length (Zs.flatMap ZE.enc)).sat w) (h3 : (rowL Al cl s.links).sat w) (h4 : (rowS As cs s.shifts).sat w)
  (h5 : (It.row (.slice q.A q.z.eras.length q.c) 74 13 q.z.eras.length (es.flatMap DEra.enc)).sat w) (h6 : (It.fact S (ZaQ (Zs.eraseIdx i))).sat w) :
  Zaj w Ar Az Al As cr cz cl cs ⟨s.rules, s.zones.set i ⟨q.z.name, es⟩, s.links, s.shifts⟩ := by
 have hzl : s.zones.length = Zs.length := by rw [<- hz, List.length_map]
 rw [hzl] at h2
 have hlen : (Zs.set i ⟨⟨q.z.name, es⟩, q.A, q.c⟩).length = Zs.length := List.length_set
 have hfl : (Zs.set i ⟨⟨q.z.name, es⟩, q.A, q.c⟩).flatMap ZE.enc = Zs.flatMap ZE.enc := ZgH ZE.enc Zs i _ q hq (by unfold ZE.enc; dsimp only; rw [hes])
 have hmap : (Zs.set i ⟨⟨q.z.name, es⟩, q.A, q.c⟩).map ZE.z = s.zones.set i ⟨q.z.name, es⟩ := by
  rw [List.map_set, hz]
 have hrow : RdSl w Az cz ZE.enc 2 (Zs.set i ⟨⟨q.z.name, es⟩, q.A, q.c⟩) := ZaW ZE.len (by rw [hlen, hfl]; exact h2)
 have hat : ZaQ (Zs.set i ⟨⟨q.z.name, es⟩, q.A, q.c⟩) w := fun y hy => by
  rcases ZlC hy with rfl | hy
  ·exact ZaW DEra.len (by rw [hes]; exact h5)
  ·exact ZaA h6 y hy
 have hl2 : (s.zones.set i ⟨q.z.name, es⟩).length = (Zs.set i ⟨⟨q.z.name, es⟩, q.A, q.c⟩).length := by rw [<- hmap, List.length_map]
 exact ⟨ZaW Zaa.len h1, by show (s.zones.set i ⟨q.z.name, es⟩).length <= cz; rw [hl2]; exact hrow.le, hrow.cap, hmap ▸ Zlf hrow hat, ZaW Zbf.len h3, ZaW Zbh.len h4⟩
theorem no27 (d : DD23) {x : ByteArray} (h : ∀ nz : Fin 4, ∀ nl : Fin 5, ∀ y ∈ Zfn nz.val nl.val, y ≠ x) : ZbI (Zap d) x = (0, 9) := by
 obtain ⟨z1, z3⟩ := ZbK d.zones
 have hl : (d.links.take 4).length <= 4 := by rw [List.length_take]; omega
 have hn := h ⟨_, Nat.lt_succ_of_le z3⟩ ⟨_, Nat.lt_succ_of_le hl⟩
 refine ZvS (Zfj d) (fun z hz => hn _ ?_) (fun l hl => hn _ ?_)
 ·exact Zgd d (.inl (List.mem_map.2 ⟨z, hz, rfl⟩))
 ·exact Zgd d (.inr (List.mem_map.2 ⟨l, hl, rfl⟩))
theorem ZyH {w : World} {Ar Az Al As : Option Addr} {cr cz cl cs i : Nat} {Zs : List ZE} {S : Nat -> Prop} {q : ZE} {s : Zai} (hz : Zs.map ZE.z = s.zones) (hq : Zs[i]? = some q)
  (h1 : (rowR Ar cr s.rules).sat w) (h2 : (It.row (.slice Az s.zones.length cz) 54 2 s.zones.length (Zs.flatMap ZE.enc)).sat w) (h3 : (rowL Al cl s.links).sat w) (h4 : (rowS As cs s.shifts).sat w)
  (h5 : (ZbD q).sat w) (h6 : (It.fact S (ZaQ (Zs.eraseIdx i))).sat w) : Zaj w Ar Az Al As cr cz cl cs s := by
 have h := ZsN (es := q.z.eras) hz hq rfl h1 h2 h3 h4 h5 h6
 have hs : s.zones[i]? = some q.z := by rw [<- hz, List.getElem?_map, hq]; rfl
 have e : s.zones.set i ⟨q.z.name, q.z.eras⟩ = s.zones := ZmG hs
 rw [e] at h
 exact h
def eraQ (e : DEra) : DEra := { e with format := qN }
theorem ZAz {G : Prop} (h : G := by (first | (apply Zl9; rfl; rfl; decide; decide; rfl) | (apply Zfy; rfl; (constructor <;> omega)) | (apply ZaE; rfl; rfl; first | exact e1 | exact e2))) : G := h
theorem ZpZ {G G' : Prop} (k : G') (h : Hold G' -> G := by intro k9; (first | refine und ?_ | (apply RL_pu; rfl; exact ZAz) | (refine js ?_; (first | (refine Zac (fun w' _ => kx1 w') ?_) | (refine Zac (fun w' _ => kx2 w') ?_) | (refine Zac (fun w' _ => kx3 w') ?_))) | refine walk1 ?_); exact k9.out) : G := h ⟨k⟩
set_option maxHeartbeats 8000000 in
set_option maxRecDepth 20000 in
theorem Zh1 (As Az Al : Option Addr) (cs cz cl : Nat) (d : DD23) (far : Int) (w : World) (hL : LibW w) (hG : Glob w) (hM : MeG w) (hS : RdLL w As cs ZcH 1 d.sets) (hZ : RdLL w Az cz E23.enc 8 d.zones) (hD : RdSl w Al cl ZcH 1 d.links) (hrs : ∀ l ∈ d.sets, ∀ x ∈ l, inR .u8 x) (hrz : ∀ l ∈ d.zones, ∀ x ∈ l, x.ok) (hrl : ∀ x ∈ d.links, inR .u8 x) (hfa : inR .u32 far) :
  Does Tryz.prog 6 [d23V As Az Al cs cz cl d, .int .u32 far] w (fun v O => v = .bool true /\ O = []) := by
 have hwk := fun w' (hw : Bel w.heap.size w w') => Zdw w' (hL.up hw) (hG.up hw)
 have hm := mn23 d
 have hac := Zfj d
 have hsm := ZbU d
 have hzs := ZaX d
 have h12 := Ztm d
 have hba := fun z e => ZwH d (z := z) (e := e)
 have hbs := fun z e => ZwG d (z := z) (e := e)
 have hnq := no27 d fun nz nl y hy => (Zqm nz nl y hy).1
 have hne := no27 d fun nz nl y hy => (Zqm nz nl y hy).2
 have hnz : 1 <= (Zap d).zones.length := by
  rw [Zdf]
  exact (ZbK d.zones).1
 have hmk := fun w' (hw : Bel w.heap.size w w') => (Zf6 As Az Al cs cz cl d w' (hS.up hw) (hZ.up hw) (hD.up hw) hrs hrz hrl).monoO fun _ _ h => ZrC (i := 0) h hnz
 unfold ZvQ at hmk
 generalize Zap d = s at *
 have hf2 : 0 <= far /\ far <= 4294967295 := ZlI.1 hfa
 have hzl : s.zones.length <= 100 := hsm.nz
 have hzq : ∀ (Zs : List ZE) (q : ZE), Zs.map ZE.z = s.zones -> Zs[0]? = some q -> 0 < q.z.eras.length := fun Zs q h1 h2 => by
  have : s.zones[0]? = some q.z := by rw [<- h1, List.getElem?_map, h2]; rfl
  obtain ⟨Y, hY⟩ := hzs q.z (List.mem_of_getElem? this)
  have := hY.len
  omega
 refine Zab Tryz.func6 rfl rfl rfl rfl ?_
 repeat (first | (apply RL_pu; rfl; (first | (apply Zav; rfl; rfl; omega; (first | omega | (have := hzq _ _ hZ1 hq1; omega)); (intro w' _ hO; exact Zbp (hO.of (by repeat' constructor)) (by first | omega | exact hzq _ _ hZ1 hq1))) | (apply Zcj; rfl; (focus repeat' constructor); first | exact ZaC ZE.len _ 0 _ 1 _ hq1 rfl | exact ZaC ZE.len _ 0 _ 0 _ (by assumption) rfl) | (apply Pu_conv64; rfl; (constructor <;> omega)) | (apply Zfy; rfl; (constructor <;> omega)))) | (refine js ?_; (first | (apply Zag (h := fun w' hw _ => hmk w' hw); rfl; rintro v O' ⟨R1, r1, Z1, z1, L1, l1, H1, h1, Zs1, S1, q, rfl, hZ1, hq1, rfl⟩) | (apply Zpt; rfl; rfl; (focus repeat' constructor); rfl; rfl; rfl; (rw [Zbr DEra.len]; have := hzq _ _ hZ1 hq1; omega); decide; rfl) | (refine bx ?_; intro bk))) | refine walk1 ?_)
 generalize bk = bI
 rename_i b2 RA ra ZA za LA la HA ha ZsA SA qA hZA hqA b5 b6
 have hzA : s.zones[0]? = some qA.z := by rw [<- hZA, List.getElem?_map, hqA]; rfl
 have hzB : s.zones[0]? = some q.z := by rw [<- hZ1, List.getElem?_map, hq1]; rfl
 obtain ⟨e0, he0⟩ : ∃ e, q.z.eras[0]? = some e := ⟨_, List.getElem?_eq_getElem (hzq _ _ hZ1 hq1)⟩
 have hbacc := hba _ _ hzB he0
 have hbsml := hbs _ _ hzB he0
 have hrd : ∀ w', (∀ i ∈ [rowR R1 r1 s.rules, .row (.slice Z1 s.zones.length z1) 54 2 s.zones.length (Zs1.flatMap ZE.enc), rowL L1 l1 s.links, rowS H1 h1 s.shifts, .row (.slice q.A q.z.eras.length q.c) 74 13 q.z.eras.length (lay (q.z.eras.flatMap DEra.enc) ((0 : Int).toNat * 13 + 4) [.string qN]), .fact S1 (ZaQ (Zs1.eraseIdx 0))], It.sat i w') -> Zaj w' R1 Z1 L1 H1 r1 z1 l1 h1 (badF s q.z e0) := fun w' hi => by
  refine ZsN (i := 0) (es := q.z.eras.set 0 (eraQ e0)) hZ1 hq1 List.length_set (hi (rowR R1 r1 s.rules) (.head _)) (hi _ (.tail _ (.head _))) (hi (rowL L1 l1 s.links) (.tail _ (.tail _ (.head _)))) (hi (rowS H1 h1 s.shifts) (.tail _ (.tail _ (.tail _ (.head _))))) ?_ (hi (.fact S1 (ZaQ (Zs1.eraseIdx 0))) (.tail _ (.tail _ (.tail _ (.tail _ (.tail _ (.head _)))))))
  have h9 := ZkK DEra.len 4 [.string qN] (by decide) e0 (eraQ e0) rfl q.z.eras 0 he0
  rw [<- h9]
  exact hi (.row (.slice q.A q.z.eras.length q.c) 74 13 q.z.eras.length (lay (q.z.eras.flatMap DEra.enc) ((0 : Int).toNat * 13 + 4) [.string qN])) (.tail _ (.tail _ (.tail _ (.tail _ (.head _)))))
 have hrs' : ∀ w', (∀ i ∈ [rowR RA ra s.rules, .row (.slice ZA s.zones.length za) 54 2 s.zones.length (ZsA.flatMap ZE.enc), rowL LA la s.links, rowS HA ha s.shifts, ZbD qA, .fact SA (ZaQ (ZsA.eraseIdx 0))], It.sat i w') -> Zaj w' RA ZA LA HA ra za la ha s := fun w' hi =>
  ZyH hZA hqA (hi (rowR RA ra s.rules) (.head _)) (hi (.row (.slice ZA s.zones.length za) 54 2 s.zones.length (ZsA.flatMap ZE.enc)) (.tail _ (.head _))) (hi (rowL LA la s.links) (.tail _ (.tail _ (.head _)))) (hi (rowS HA ha s.shifts) (.tail _ (.tail _ (.tail _ (.head _))))) (hi (ZbD qA) (.tail _ (.tail _ (.tail _ (.tail _ (.head _)))))) (hi (.fact SA (ZaQ (ZsA.eraseIdx 0))) (.tail _ (.tail _ (.tail _ (.tail _ (.tail _ (.head _)))))))
 have hbz : (badF s q.z e0).zones.length = s.zones.length := List.length_set
 have hbr : (badF s q.z e0).rules = s.rules := rfl
 have hbl : (badF s q.z e0).links = s.links := rfl
 have hbh : (badF s q.z e0).shifts = s.shifts := rfl
 refine ZdG [rowR R1 r1 s.rules, .row (.slice Z1 s.zones.length z1) 54 2 s.zones.length (Zs1.flatMap ZE.enc), rowL L1 l1 s.links, rowS H1 h1 s.shifts, .row (.slice q.A q.z.eras.length q.c) 74 13 q.z.eras.length (lay (q.z.eras.flatMap DEra.enc) ((0 : Int).toNat * 13 + 4) [.string qN]), .fact S1 (ZaQ (Zs1.eraseIdx 0))]
  [rowR RA ra s.rules, .row (.slice ZA s.zones.length za) 54 2 s.zones.length (ZsA.flatMap ZE.enc), rowL LA la s.links, rowS HA ha s.shifts, ZbD qA, .fact SA (ZaQ (ZsA.eraseIdx 0)), .blk bI [.int .i64 (36028797018963969 + far), .int .i64 (-36028797018963969 - far), .int .i64 9223372036854775807, .int .i64 (-9223372036854775808)] 2, .blk b5 [.slice RA s.rules.length ra, .slice ZA s.zones.length za, .slice LA s.links.length la, .slice HA s.shifts.length ha] 34, .blk b6 [.slice R1 s.rules.length r1, .slice Z1 s.zones.length z1, .slice L1 s.links.length l1, .slice H1 s.shifts.length h1] 34] (fun w' => Zaj w' R1 Z1 L1 H1 r1 z1 l1 h1 (badF s q.z e0)) SOA hrd ?_
 generalize foot _ = SB
 refine ZdG [rowR RA ra s.rules, .row (.slice ZA s.zones.length za) 54 2 s.zones.length (ZsA.flatMap ZE.enc), rowL LA la s.links, rowS HA ha s.shifts, ZbD qA, .fact SA (ZaQ (ZsA.eraseIdx 0))]
  [.fact SB (fun w' => Zaj w' R1 Z1 L1 H1 r1 z1 l1 h1 (badF s q.z e0)), .blk bI [.int .i64 (36028797018963969 + far), .int .i64 (-36028797018963969 - far), .int .i64 9223372036854775807, .int .i64 (-9223372036854775808)] 2, .blk b5 [.slice RA s.rules.length ra, .slice ZA s.zones.length za, .slice LA s.links.length la, .slice HA s.shifts.length ha] 34, .blk b6 [.slice R1 s.rules.length r1, .slice Z1 s.zones.length z1, .slice L1 s.links.length l1, .slice H1 s.shifts.length h1] 34] (fun w' => Zaj w' RA ZA LA HA ra za la ha s) SOA hrs' ?_
 generalize foot _ = SF
 clear hrd hrs'
 have hcell : It.blk b6 [.slice R1 s.rules.length r1, .slice Z1 s.zones.length z1, .slice L1 s.links.length l1, .slice H1 s.shifts.length h1] 34 = It.blk b6 [.slice R1 (badF s q.z e0).rules.length r1, .slice Z1 (badF s q.z e0).zones.length z1, .slice L1 (badF s q.z e0).links.length l1, .slice H1 (badF s q.z e0).shifts.length h1] 34 := by
  rw [hbz]
  rfl
 rw [hcell]
 have hbl2 : (badF s q.z e0).links.length = s.links.length := rfl
 clear hcell hbr hbl hbh hba hbs
 generalize badF s q.z e0 = bs at *
 have hbn : bs.zones.length + bs.links.length <= 1000000 := by omega
 obtain ⟨Y, hY⟩ := hzs qA.z (List.mem_of_getElem? hzA)
 have hzd := Zkd hac hzA
 have t0 : tOk 0 = true := rfl
 have tf : tOk far = true := ZaP.2 (by omega)
 have tn : tOk (-far - 1) = true := ZaP.2 (by omega)
 have kb1 := fun w' (hw : Bel w.heap.size w w') (hA : Zaj w' R1 Z1 L1 H1 r1 z1 l1 h1 bs) => ZiO R1 Z1 L1 H1 r1 z1 l1 h1 bs qN 0 w' (hbsml.acc (hL.up hw) (hG.up hw) hA) hbn t0 (by rw [Zip hbacc]; decide)
 have kb2 := fun w' (hw : Bel w.heap.size w w') (hA : Zaj w' R1 Z1 L1 H1 r1 z1 l1 h1 bs) => ZqU R1 Z1 L1 H1 r1 z1 l1 h1 bs qA.z.name 0 0 w' (hbsml.acc (hL.up hw) (hG.up hw) hA) hbn t0 t0 (by rw [Zip hbacc]; decide)
 have ks1 := fun w' (hw : Bel w.heap.size w w') (hA : Zaj w' RA ZA LA HA ra za la ha s) => ZiO RA ZA LA HA ra za la ha s qN 0 w' (hsm.acc (hL.up hw) (hG.up hw) hA) (by omega) t0 (by rw [hnq]; decide)
 have ks2 := fun w' (hw : Bel w.heap.size w w') (hA : Zaj w' RA ZA LA HA ra za la ha s) => ZqU RA ZA LA HA ra za la ha s ByteArray.empty 0 0 w' (hsm.acc (hL.up hw) (hG.up hw) hA) (by omega) t0 t0 (by rw [hne]; decide)
 have ks3 := fun w' (hw : Bel w.heap.size w w') (hA : Zaj w' RA ZA LA HA ra za la ha s) => Zeq RA ZA LA HA ra za la ha s qA.z.name w' (hsm.acc (hL.up hw) (hG.up hw) hA) (by omega) hm hzd hzA hY far (-far - 1) tf tn (hY.all_back (a := far) (b := -far - 1) (by omega) (by omega) (by omega))
 have ks4 := fun w' (hw : Bel w.heap.size w w') (hA : Zaj w' RA ZA LA HA ra za la ha s) => mAt RA ZA LA HA ra za la ha s qA.z.name far w' (hsm.acc (hL.up hw) (hG.up hw) hA) (hM.up hw) (by omega) hm tf hzd hzA
 have ks5 := fun w' (hw : Bel w.heap.size w w') (hA : Zaj w' RA ZA LA HA ra za la ha s) => ZiP RA ZA LA HA ra za la ha s qA.z.name w' (hsm.acc (hL.up hw) (hG.up hw) hA) (by omega) hm hzd hzA hY 36028797018963968 (by decide)
 rw [Zip hbacc] at kb1 kb2
 rw [hnq] at ks1
 rw [hne] at ks2
 rw [hY.nx_end] at ks5
 dsimp only [alN, Option.getD, Option.isSome] at kb1 kb2 ks1 ks2 ks5
 obtain ⟨La, hLa⟩ : ∃ La, ZaD s.rules qA.z.eras far = La := ⟨_, rfl⟩
 rw [hLa] at ks3 ks4
 obtain ⟨p1, p2, p3⟩ := La
 simp only [Zaf.enc] at ks4
 have eq1 : ∀ (A : Option Addr) (b c : Nat) (w : World), RdSl w A c Zaf.enc 3 [(⟨p1, p2, p3⟩ : Zaf)] -> RdSl w (some ⟨b, 0, none⟩) 1 Zaf.enc 3 [(⟨p1, p2, p3⟩ : Zaf)] -> Does Tryz.prog 17 [.slice A 1 c, .slice (some ⟨b, 0, none⟩) 1 1] w (fun v O => v = .bool true /\ O = []) := fun A b c w h1 h2 => by
  have := Ze6 A (some ⟨b, 0, none⟩) c 1 [(⟨p1, p2, p3⟩ : Zaf)] [(⟨p1, p2, p3⟩ : Zaf)] w h1 h2
  rwa [decide_eq_true rfl] at this
 have e1 : (!decide ((3 : Int) = 3)) = false := rfl
 have e2 : (!decide ((0 : Int) = 0)) = false := rfl
 clear hmk hS hZ hD hLa hzd hbacc
 refine Zaq [(5, .pointer (some ⟨b5, 0, none⟩)), (6, .pointer (some ⟨b6, 0, none⟩)), (7, .string qA.z.name), (8, .int .i64 far), (62, .slice (some ⟨bI, 0, none⟩) 4 4), (63, .int .i64 4)]
  [.blk bI [.int .i64 (36028797018963969 + far), .int .i64 (-36028797018963969 - far), .int .i64 9223372036854775807, .int .i64 (-9223372036854775808)] 2, .fact SB (fun w' => Zaj w' R1 Z1 L1 H1 r1 z1 l1 h1 bs), .fact SF (fun w' => Zaj w' RA ZA LA HA ra za la ha s), .blk b5 [.slice RA s.rules.length ra, .slice ZA s.zones.length za, .slice LA s.links.length la, .slice HA s.shifts.length ha] 34, .blk b6 [.slice R1 bs.rules.length r1, .slice Z1 bs.zones.length z1, .slice L1 bs.links.length l1, .slice H1 bs.shifts.length h1] 34]
  (fun k : Nat => [(64, .int .i64 k)]) (fun _ => []) (fun k => k <= 4) (fun k => 4 - k) 0 SFA SOA (Nat.zero_le _) ?_
 intro k hk
 have hkc : k = 0 \/ k = 1 \/ k = 2 \/ k = 3 \/ k = 4 := by omega
 have hx1 := fun (tt : Int) (ht : tOk tt = false) w' => Zkw R1 Z1 L1 H1 r1 z1 l1 h1 bs qN tt w' ht
 have hx2 := fun (tt : Int) (ht : tOk tt = false) w' => ZnT R1 Z1 L1 H1 r1 z1 l1 h1 bs qN tt 0 w' (by rw [ht]; rfl)
 have hx3 := fun (tt : Int) (ht : tOk tt = false) w' => ZnT R1 Z1 L1 H1 r1 z1 l1 h1 bs qN 0 tt w' (by rw [ht]; rfl)
 unfold alN at hx2 hx3
 rcases hkc with rfl | rfl | rfl | rfl | rfl
 ·obtain ⟨tt, htq⟩ : ∃ tt, 36028797018963969 + far = tt := ⟨_, rfl⟩
  have htt : tOk tt = false := by
   rw [Bool.eq_false_iff]
   exact fun h => by have := ZaP.1 h; omega
  rw [htq]
  have kx1 := hx1 tt htt
  have kx2 := hx2 tt htt
  have kx3 := hx3 tt htt
  repeat (first | refine ZpZ ?_ | (refine js ?_; (refine bx ?_; intro bk)))
  exact ⟨1, by omega, by omega, SFA, SOA⟩
 ·obtain ⟨tt, htq⟩ : ∃ tt, -36028797018963969 - far = tt := ⟨_, rfl⟩
  have htt : tOk tt = false := by
   rw [Bool.eq_false_iff]
   exact fun h => by have := ZaP.1 h; omega
  rw [htq]
  have kx1 := hx1 tt htt
  have kx2 := hx2 tt htt
  have kx3 := hx3 tt htt
  repeat (first | refine ZpZ ?_ | (refine js ?_; (refine bx ?_; intro bk)))
  exact ⟨2, by omega, by omega, SFA, SOA⟩
 ·have kx1 := hx1 9223372036854775807 rfl
  have kx2 := hx2 9223372036854775807 rfl
  have kx3 := hx3 9223372036854775807 rfl
  repeat (first | refine ZpZ ?_ | (refine js ?_; (refine bx ?_; intro bk)))
  exact ⟨3, by omega, by omega, SFA, SOA⟩
 ·have kx1 := hx1 (-9223372036854775808) rfl
  have kx2 := hx2 (-9223372036854775808) rfl
  have kx3 := hx3 (-9223372036854775808) rfl
  repeat (first | refine ZpZ ?_ | (refine js ?_; (refine bx ?_; intro bk)))
  exact ⟨4, by omega, by omega, SFA, SOA⟩
 clear hx1 hx2 hx3 hk
 repeat (first | refine und ?_ | (apply RL_pu; rfl; (first | (apply Zfy; rfl; (constructor <;> omega)) | (apply ZaG; rfl; rfl; exact decide_eq_true rfl))) | (refine js ?_; (first | (refine ZaF (fun w' hw hO => kb1 w' hw (ZaA (hO.of (A := .fact SB (fun w' => Zaj w' R1 Z1 L1 H1 r1 z1 l1 h1 bs)) (by repeat' constructor)))) ?_) | (refine ZaF (fun w' hw hO => kb2 w' hw (ZaA (hO.of (A := .fact SB (fun w' => Zaj w' R1 Z1 L1 H1 r1 z1 l1 h1 bs)) (by repeat' constructor)))) ?_) | (refine ZaF (fun w' hw hO => ks1 w' hw (ZaA (hO.of (A := .fact SF (fun w' => Zaj w' RA ZA LA HA ra za la ha s)) (by repeat' constructor)))) ?_) | (refine ZaF (fun w' hw hO => ks2 w' hw (ZaA (hO.of (A := .fact SF (fun w' => Zaj w' RA ZA LA HA ra za la ha s)) (by repeat' constructor)))) ?_) | (refine ZaF (fun w' hw hO => ks4 w' hw (ZaA (hO.of (A := .fact SF (fun w' => Zaj w' RA ZA LA HA ra za la ha s)) (by repeat' constructor)))) ?_) | (refine ZaF (fun w' hw hO => ks5 w' hw (ZaA (hO.of (A := .fact SF (fun w' => Zaj w' RA ZA LA HA ra za la ha s)) (by repeat' constructor)))) ?_) | (apply Zag (h := fun w' hw hO => ks3 w' hw (ZaA (hO.of (A := .fact SF (fun w' => Zaj w' RA ZA LA HA ra za la ha s)) (by repeat' constructor)))); rfl; rintro v O' ⟨Ao, co, At, ct, rfl, rfl⟩) | (refine bx ?_; intro bk))) | refine walk1 ?_)
 generalize bk = bL
 repeat (first | refine und ?_ | (apply RL_pu; rfl; (apply ZaG; rfl; rfl; exact decide_eq_true rfl)) | (refine js ?_; (first | (refine ZaF (fun w' _ hO => eq1 At bL ct w' (ZaW Zaf.len (hO.of (A := .row (.slice At 1 ct) _ _ _ _) (by repeat' constructor))) (Zh7 (c := 1) (l := [(⟨p1, p2, p3⟩ : Zaf)]) (enc := Zaf.enc) (t := 47) Zaf.len (Nat.le_refl 1) (by decide) (hO.of (A := .blk bL _ _) (by repeat' constructor)))) ?_) | (refine Zac hwk ?_) | (refine bx ?_; intro bk))) | refine walk1 ?_)
 exact rtA
end Go.Proofs.YtpcpmndldgejiaaGreatDoor
