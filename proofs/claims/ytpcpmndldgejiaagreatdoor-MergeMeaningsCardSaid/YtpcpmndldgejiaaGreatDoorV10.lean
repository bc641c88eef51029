/- Parts of the proof. -/
import Derived.Test.YtpcpmndldgejiaaGreatDoorV07
import Derived.Test.YtpcpmndldgejiaaGreatDoorV08
import Derived.Test.YtpcpmndldgejiaaGreatDoorV04
set_option maxHeartbeats 4000000
set_option linter.unusedVariables false
set_option linter.unusedSimpArgs false
namespace Go.Proofs.YtpcpmndldgejiaaGreatDoor
open Go Go.RowKit Go.Wk
theorem lay_right (a : List Value) : ∀ (vs cs : List Value) (j : Nat), lay (a ++ cs) (a.length + j) vs = a ++ lay cs j vs
 | [], _, _ => rfl
 | v :: r, cs, j => by
  rw [lay, lay, List.set_append_right _ _ (by omega), Nat.add_sub_cancel_left, Nat.add_assoc, lay_right a r _ (j + 1)]
theorem lay_left (c : List Value) : ∀ (vs a : List Value) (j : Nat), j + vs.length ≤ a.length → lay (a ++ c) j vs = lay a j vs ++ c
 | [], _, _, _ => rfl
 | v :: r, a, j, h => by
  simp only [List.length_cons] at h
  rw [lay, lay, List.set_append_left _ _ (by omega), lay_left c r _ (j + 1) (by rw [List.length_set]; omega)]
theorem ZdY {α : Type} {enc : α → List Value} {sz : Nat} (hsz : ∀ x, (enc x).length = sz) (off : Nat) (vs : List Value) (hb : off + vs.length ≤ sz) (x y : α) (he : lay (enc x) off vs = enc y) : ∀ (l : List α) (k : Nat), l[k]? = some x → lay (l.flatMap enc) (k * sz + off) vs = (l.set k y).flatMap enc
 | [], k, h => by simp at h
 | z :: l, 0, h => by
  simp only [List.getElem?_cons_zero, Option.some.injEq] at h
  subst h
  rw [List.flatMap_cons, List.set_cons_zero, List.flatMap_cons, ← he, Nat.zero_mul, Nat.zero_add, lay_left _ _ _ _ (by rw [hsz]; exact hb)]
 | z :: l, k + 1, h => by
  have ih := ZdY hsz off vs hb x y he l k (by simpa using h)
  rw [List.flatMap_cons, List.set_cons_succ, List.flatMap_cons, ← ih, show (k + 1) * sz + off = (enc z).length + (k * sz + off) by rw [hsz, Nat.add_mul]; omega, lay_right]
theorem set_step {α : Type} (f : α → α) (l : List α) (k : Nat) (x : α) (hx : l[k]? = some x) : ((l.take k).map f ++ l.drop k)[k]? = some x ∧ ((l.take k).map f ++ l.drop k).set k (f x) = (l.take (k + 1)).map f ++ l.drop (k + 1) := by
 have hk := (List.getElem?_eq_some_iff.1 hx).1
 have hl : ((l.take k).map f).length = k := by rw [List.length_map, List.length_take]; omega
 constructor
 ·rw [List.getElem?_append_right (by omega), hl, Nat.sub_self, List.getElem?_drop, Nat.add_zero, hx]
 ·rw [List.set_append_right _ _ (by omega), hl, Nat.sub_self, Zai hk, List.set_cons_zero, List.take_add_one, hx]
  have e : l[k] = x := (List.getElem?_eq_some_iff.1 hx).2
  simp
theorem mix_len {α : Type} (f : α → α) (l : List α) (k : Nat) (hk : k ≤ l.length) : ((l.take k).map f ++ l.drop k).length = l.length := by
 rw [List.length_append, List.length_map, List.length_take, List.length_drop]; omega
def rnR (m : ByteArray) (r : Zaa) : Zaa := { r with name := r.name ++ m }
def rnE (m : ByteArray) (e : DEra) : DEra := if e.kind = 2 then { e with set := e.set ++ m } else e
def rnL (m : ByteArray) (x : ZaC) : ZaC := ⟨x.target ++ m, x.name ++ m⟩
def rnS (m : ByteArray) (x : ByteArray) : ByteArray := x ++ m
def onB {α : Type} (b : Bool) (f : α → α) (l : List α) : List α := if b then l.map f else l
def rnZ (m : ByteArray) (b : Bool) (z : ZaN) : ZaN := ⟨z.name ++ m, onB b (rnE m) z.eras⟩
def renD (s : Zaf) (m : ByteArray) (b : Bool) : Zaf := ⟨onB b (rnR m) s.rules, s.zones.map (rnZ m b), s.links.map (rnL m), onB b (rnS m) s.shifts⟩
theorem Zdo {α : Type} (b : Bool) (f : α → α) (l : List α) : (onB b f l).length = l.length := by cases b <;> simp [onB]
theorem onB_end {α : Type} {b : Bool} {f : α → α} {l : List α} {k : Nat} (h1 : b = true → k = l.length) (h2 : b = false → k = 0) : (l.take k).map f ++ l.drop k = onB b f l := by
 cases b with
 | true => rw [h1 rfl]; simp [onB]
 | false => rw [h2 rfl]; simp [onB]
structure ZGr where
 i : Nat
 Zd : List ZE
def fz (m : ByteArray) (b : Bool) (q : ZE) : ZE := ⟨rnZ m b q.z, q.A, q.c⟩
structure Short (s : Zaf) : Prop where
 r : ∀ x ∈ s.rules, x.name.size ≤ 1000
 z : ∀ x ∈ s.zones, x.name.size ≤ 1000 ∧ ∀ e ∈ x.eras, e.set.size ≤ 1000
 l : ∀ x ∈ s.links, x.name.size ≤ 1000 ∧ x.target.size ≤ 1000
 s : ∀ x ∈ s.shifts, x.size ≤ 1000
theorem copyQ2_spec (Ar Az Al As : Option Addr) (cr cz cl cs : Nat) (a : Zaf) (w : World) (hA : Zao w Ar Az Al As cr cz cl cs a) (hn : Fits a) :
  Does Tryz.prog 36 [srcV Ar Az Al As cr cz cl cs a] w (fun v O => ∃ Ar cr Az cz Al cl As cs Zs, v = .agg #[.slice Ar a.rules.length cr, .slice Az Zs.length cz, .slice Al a.links.length cl, .slice As a.shifts.length cs] ∧ Zs.map ZE.z = a.zones ∧ O = [rowR Ar cr a.rules, rowZ Az cz Zs, rowL Al cl a.links, rowS As cs a.shifts] ++ Zs.map ZaV) := by
 refine (copyQ_spec Ar Az Al As cr cz cl cs a w hA hn).mono ?_
 rintro v O ⟨Ar, cr, Az, cz, Al, cl, As, cs, Zs, rfl, hz, rfl⟩
 exact ⟨Ar, cr, Az, cz, Al, cl, As, cs, Zs, by rw [srcV, ← hz, List.length_map], hz, rfl⟩
attribute [local irreducible] W RL Does Zat Zak retQ Calls Pu Stp RD Qy Ay Zam
set_option maxHeartbeats 8000000 in
theorem renamed_spec (Ar Az Al As : Option Addr) (cr cz cl cs : Nat) (a : Zaf) (more : ByteArray) (sets : Bool) (w : World) (hA : Zao w Ar Az Al As cr cz cl cs a) (hn : Fits a) (hs : Short a) (hm : more.size ≤ 1000) :
  Does Tryz.prog 19 [srcV Ar Az Al As cr cz cl cs a, .string more, .bool sets] w (NewSrcR (renD a more sets)) := by
 obtain ⟨hnr, hnz, hnl, hns, hne⟩ := id hn
 refine Zab Tryz.func19 rfl rfl rfl rfl ?_
 repeat (first | ((apply RL_st; rfl; apply Zah (h := fun w' hw _ => copyQ2_spec Ar Az Al As cr cz cl cs a w' (hA.up hw) hn); rfl; rintro v O' ⟨R, kr, Z, kz, L, kl, H, kh, Zs, rfl, hZ, rfl⟩); refine RL_tail ?_) | (refine js ?_; (refine bx ?_; intro bk)) | refine walk ?_)
 rename_i b3
 generalize bk = b6
 have hzl : Zs.length = a.zones.length := by rw [← hZ, List.length_map]
 refine Zal [(1, .string more), (2, .bool sets), (3, .pointer (some ⟨b3, 0, none⟩)), (6, .pointer (some ⟨b6, 0, none⟩))] (.row (.slice Z Zs.length kz) 54 2 Zs.length (Zs.flatMap ZE.enc) :: .row (.slice L a.links.length kl) 56 2 a.links.length (a.links.flatMap ZaC.enc) :: .row (.slice H a.shifts.length kh) 9 1 a.shifts.length (a.shifts.flatMap Zau) :: .blk b3 [.slice R a.rules.length kr, .slice Z Zs.length kz, .slice L a.links.length kl, .slice H a.shifts.length kh] 34 :: .blk b6 [.slice none 0 0, .slice none 0 0, .slice none 0 0, .slice none 0 0] 34 :: Zs.map ZaV) (fun g : Nat => [(7, .int .i64 g)]) (fun g => [.row (.slice R a.rules.length kr) 118 11 a.rules.length (((a.rules.take g).map (rnR more) ++ a.rules.drop g).flatMap Zaa.enc)]) (fun g => g ≤ a.rules.length ∧ (sets = false → g = 0)) (fun g => a.rules.length - g) 0 SFA STA ⟨Nat.zero_le _, fun _ => rfl⟩ ?_
 rintro k ⟨hk, hk0⟩
 have hml := mix_len (rnR more) a.rules k hk
 repeat (first | (refine js ?_; (refine bx ?_; intro bk)) | refine walk ?_)
 refine RL_post (fun fr' O' => Sub [(21, .bool (decide ((k : Int) < (a.rules.length : Int)) && sets)), (7, .int .i64 k), (1, .string more), (2, .bool sets), (3, .pointer (some ⟨b3, 0, none⟩)), (6, .pointer (some ⟨b6, 0, none⟩))] fr' ∧ SubO (.row (.slice R a.rules.length kr) 118 11 a.rules.length (((a.rules.take k).map (rnR more) ++ a.rules.drop k).flatMap Zaa.enc) :: .row (.slice Z Zs.length kz) 54 2 Zs.length (Zs.flatMap ZE.enc) :: .row (.slice L a.links.length kl) 56 2 a.links.length (a.links.flatMap ZaC.enc) :: .row (.slice H a.shifts.length kh) 9 1 a.shifts.length (a.shifts.flatMap Zau) :: .blk b3 [.slice R a.rules.length kr, .slice Z Zs.length kz, .slice L a.links.length kl, .slice H a.shifts.length kh] 34 :: .blk b6 [.slice none 0 0, .slice none 0 0, .slice none 0 0, .slice none 0 0] 34 :: Zs.map ZaV) O') ?_ ?_
 ·refine Zdj 19 rfl (fun h => ?_) (fun h => ?_)
  ·repeat (first | (refine js ?_; (refine bx ?_; intro bk)) | refine walk ?_)
   rw [show (decide ((k : Int) < (a.rules.length : Int)) && sets) = sets by rw [h]; rfl]
   exact ⟨SFA, STA⟩
  ·repeat (first | (refine js ?_; (refine bx ?_; intro bk)) | refine walk ?_)
   rw [show (decide ((k : Int) < (a.rules.length : Int)) && sets) = false by rw [h]; rfl]
   exact ⟨SFA, STA⟩
 rintro fr' O' ⟨hf, hO⟩
 apply thenQ_n
 refine ZbV hf hO ?_
 clear hf hO fr' O'
 refine Zag rfl (fun h => ?_) (fun h => ?_)
 ·rw [Bool.and_eq_true] at h
  obtain ⟨h1, h2⟩ := h
  have hk2 : k < a.rules.length := by simpa using h1
  have hget : a.rules[k]? = some a.rules[k] := List.getElem?_eq_getElem hk2
  have hsz := hs.r _ (List.getElem_mem hk2)
  obtain ⟨hg1, hg2⟩ := set_step (rnR more) a.rules k _ hget
  generalize a.rules[k] = x at *
  have hx1 : (((a.rules.take k).map (rnR more) ++ a.rules.drop k).flatMap Zaa.enc)[((k : Int)).toNat * 11 + 0]? = some (.string x.name) := ZaG Zaa.len ((a.rules.take k).map (rnR more) ++ a.rules.drop k) k x 0 _ hg1 rfl
  have hst := ZdY Zaa.len 0 [.string (x.name ++ more)] (by simp only [List.length_cons, List.length_nil]; omega) x (rnR more x) rfl ((a.rules.take k).map (rnR more) ++ a.rules.drop k) k hg1
  rw [hg2] at hst
  repeat (first | (apply RL_pu; rfl; (first | (apply ZaB; rfl; rfl; omega; omega; (intro w' _ hO; exact ZbE (hO.of (A := .row (.slice R _ kr) _ _ _ _) (by repeat' constructor)) (by omega))) | (apply Zbo; rfl) | (apply ZbR; rfl; (focus repeat' constructor); exact hx1) | (apply ZcG; rfl; rfl; omega))) | (refine js ?_; (first | (apply Zcq; rfl; rfl; (focus repeat' constructor); rfl; rfl; rfl; (rw [ZaF Zaa.len, hml]; omega); decide; exact hst) | (refine bx ?_; intro bk))) | refine walk1 ?_)
  exact ⟨k + 1, OA, ⟨OA, fun h => by rw [h2] at h; cases h⟩, SFA, STA⟩
 have hend : ((a.rules.take k).map (rnR more) ++ a.rules.drop k) = onB sets (rnR more) a.rules := onB_end (fun hb => by rw [hb, Bool.and_true] at h; have := of_decide_eq_false h; omega) hk0
 rw [hend]
 clear hend h hml hk hk0
 generalize hRu : onB sets (rnR more) a.rules = Ru
 repeat (first | (refine js ?_; (refine bx ?_; intro bk)) | refine walk ?_)
 refine W_loop (fun g : ZGr => [(8, .int .i64 g.i), (1, .string more), (2, .bool sets), (3, .pointer (some ⟨b3, 0, none⟩)), (6, .pointer (some ⟨b6, 0, none⟩))]) (fun g => .row (.slice Z Zs.length kz) 54 2 Zs.length (((Zs.take g.i).map (fz more sets) ++ Zs.drop g.i).flatMap ZE.enc) :: .row (.slice R a.rules.length kr) 118 11 a.rules.length (Ru.flatMap Zaa.enc) :: .row (.slice L a.links.length kl) 56 2 a.links.length (a.links.flatMap ZaC.enc) :: .row (.slice H a.shifts.length kh) 9 1 a.shifts.length (a.shifts.flatMap Zau) :: .blk b3 [.slice R a.rules.length kr, .slice Z Zs.length kz, .slice L a.links.length kl, .slice H a.shifts.length kh] 34 :: .blk b6 [.slice none 0 0, .slice none 0 0, .slice none 0 0, .slice none 0 0] 34 :: (g.Zd.map ZaV ++ (Zs.drop g.i).map ZaV)) (fun g => g.i ≤ Zs.length ∧ g.Zd.reverse = (Zs.take g.i).map (fz more sets)) (fun g => Zs.length - g.i) ⟨0, []⟩ SFA STA ⟨Nat.zero_le _, rfl⟩ ?_
 rintro ⟨i, Zd⟩ ⟨hi, hZd⟩
 dsimp only at hi hZd ⊢
 repeat (first | (refine js ?_; (refine bx ?_; intro bk)) | refine walk ?_)
 refine Zag rfl (fun h => ?_) (fun h => ?_)
 ·have hi2 : i < Zs.length := by simpa using h
  have hget : Zs[i]? = some Zs[i] := List.getElem?_eq_getElem hi2
  have hqm : Zs[i].z ∈ a.zones := by rw [← hZ]; exact List.mem_map.2 ⟨_, List.getElem_mem hi2, rfl⟩
  obtain ⟨hz1, hz2⟩ := hs.z _ hqm
  have hne2 := hne _ hqm
  obtain ⟨hg1, hg2⟩ := set_step (fz more sets) Zs i _ hget
  have hml := mix_len (fz more sets) Zs i hi
  have hml2 := mix_len (fz more sets) Zs (i + 1) hi2
  have hg3 : ((Zs.take (i + 1)).map (fz more sets) ++ Zs.drop (i + 1))[i]? = some (fz more sets Zs[i]) := by
   rw [← hg2, List.getElem?_set_self (by rw [hml]; exact hi2)]
  have hZd2 : (fz more sets Zs[i] :: Zd).reverse = (Zs.take (i + 1)).map (fz more sets) := by
   rw [List.reverse_cons, hZd, List.take_add_one, hget, List.map_append]
   rfl
  have hdr : (Zs.drop i).map ZaV = ZaV Zs[i] :: (Zs.drop (i + 1)).map ZaV := by rw [Zai hi2, List.map_cons]
  rw [hdr]
  generalize Zs[i] = q at *
  refine W_perm (.row (.slice Z Zs.length kz) 54 2 Zs.length (((Zs.take i).map (fz more sets) ++ Zs.drop i).flatMap ZE.enc) :: .row (.slice R a.rules.length kr) 118 11 a.rules.length (Ru.flatMap Zaa.enc) :: .row (.slice L a.links.length kl) 56 2 a.links.length (a.links.flatMap ZaC.enc) :: .row (.slice H a.shifts.length kh) 9 1 a.shifts.length (a.shifts.flatMap Zau) :: .blk b3 [.slice R a.rules.length kr, .slice Z Zs.length kz, .slice L a.links.length kl, .slice H a.shifts.length kh] 34 :: .blk b6 [.slice none 0 0, .slice none 0 0, .slice none 0 0, .slice none 0 0] 34 :: ZaV q :: (Zd.map ZaV ++ (Zs.drop (i + 1)).map ZaV)) (SubO.permT (l := [_, _, _, _, _, _]) (.refl _) List.perm_middle) ?_
  generalize hT : Zd.map ZaV ++ (Zs.drop (i + 1)).map ZaV = T
  have hx1 : (((Zs.take i).map (fz more sets) ++ Zs.drop i).flatMap ZE.enc)[((i : Int)).toNat * 2 + 0]? = some (.string q.z.name) := ZaG ZE.len ((Zs.take i).map (fz more sets) ++ Zs.drop i) i q 0 _ hg1 rfl
  have hst := ZdY ZE.len 0 [.string (q.z.name ++ more)] (by simp only [List.length_cons, List.length_nil]; omega) q (fz more sets q) (by simp [lay, ZE.enc, fz, rnZ, Zdo]) ((Zs.take i).map (fz more sets) ++ Zs.drop i) i hg1
  rw [hg2] at hst
  repeat (first | (apply RL_pu; rfl; (first | (apply ZaB; rfl; rfl; omega; omega; (intro w' _ hO; exact ZbE (hO.of (A := .row (.slice Z _ kz) _ _ _ _) (by repeat' constructor)) (by omega))) | (apply Zbo; rfl) | (apply ZbR; rfl; (focus repeat' constructor); exact hx1) | (apply ZcG; rfl; rfl; omega))) | (refine js ?_; (first | (apply Zcq; rfl; rfl; (focus repeat' constructor); rfl; rfl; rfl; (rw [ZaF ZE.len, hml]; omega); decide; exact hst) | (refine bx ?_; intro bk))) | refine walk1 ?_)
  generalize hM : (Zs.take (i + 1)).map (fz more sets) ++ Zs.drop (i + 1) = M at *
  have hx2 : (M.flatMap ZE.enc)[((i : Int)).toNat * 2 + 1]? = some (.slice q.A q.z.eras.length q.c) := by
   have := ZaG ZE.len M i _ 1 _ hg3 rfl
   simpa [fz, rnZ, Zdo] using this
  refine Zal [(8, .int .i64 i), (1, .string more), (2, .bool sets), (3, .pointer (some ⟨b3, 0, none⟩)), (6, .pointer (some ⟨b6, 0, none⟩))] (.row (.slice Z Zs.length kz) 54 2 Zs.length (M.flatMap ZE.enc) :: .row (.slice R a.rules.length kr) 118 11 a.rules.length (Ru.flatMap Zaa.enc) :: .row (.slice L a.links.length kl) 56 2 a.links.length (a.links.flatMap ZaC.enc) :: .row (.slice H a.shifts.length kh) 9 1 a.shifts.length (a.shifts.flatMap Zau) :: .blk b3 [.slice R a.rules.length kr, .slice Z Zs.length kz, .slice L a.links.length kl, .slice H a.shifts.length kh] 34 :: .blk b6 [.slice none 0 0, .slice none 0 0, .slice none 0 0, .slice none 0 0] 34 :: T) (fun g : Nat => [(9, .int .i64 g)]) (fun g => [.row (.slice q.A q.z.eras.length q.c) 74 13 q.z.eras.length (((q.z.eras.take g).map (rnE more) ++ q.z.eras.drop g).flatMap DEra.enc)]) (fun g => g ≤ q.z.eras.length ∧ (sets = false → g = 0)) (fun g => q.z.eras.length - g) 0 SFA STA ⟨Nat.zero_le _, fun _ => rfl⟩ ?_
  rintro k ⟨hk, hk0⟩
  have hml3 := mix_len (rnE more) q.z.eras k hk
  repeat (first | (apply RL_pu; rfl; (first | (apply ZaB; rfl; rfl; omega; omega; (intro w' _ hO; exact ZbE (hO.of (A := .row (.slice Z _ kz) _ _ _ _) (by repeat' constructor)) (by omega))) | (apply Zbo; rfl) | (apply ZbR; rfl; (focus repeat' constructor); exact hx2))) | (refine js ?_; (refine bx ?_; intro bk)) | refine walk1 ?_)
  refine RL_post (fun fr' O' => Sub [(62, .bool (decide ((k : Int) < (q.z.eras.length : Int)) && sets)), (9, .int .i64 k), (8, .int .i64 i), (1, .string more), (2, .bool sets), (3, .pointer (some ⟨b3, 0, none⟩)), (6, .pointer (some ⟨b6, 0, none⟩))] fr' ∧ SubO (.row (.slice q.A q.z.eras.length q.c) 74 13 q.z.eras.length (((q.z.eras.take k).map (rnE more) ++ q.z.eras.drop k).flatMap DEra.enc) :: .row (.slice Z Zs.length kz) 54 2 Zs.length (M.flatMap ZE.enc) :: .row (.slice R a.rules.length kr) 118 11 a.rules.length (Ru.flatMap Zaa.enc) :: .row (.slice L a.links.length kl) 56 2 a.links.length (a.links.flatMap ZaC.enc) :: .row (.slice H a.shifts.length kh) 9 1 a.shifts.length (a.shifts.flatMap Zau) :: .blk b3 [.slice R a.rules.length kr, .slice Z Zs.length kz, .slice L a.links.length kl, .slice H a.shifts.length kh] 34 :: .blk b6 [.slice none 0 0, .slice none 0 0, .slice none 0 0, .slice none 0 0] 34 :: T) O') ?_ ?_
  ·refine Zdj 60 rfl (fun h => ?_) (fun h => ?_)
   ·repeat (first | (refine js ?_; (refine bx ?_; intro bk)) | refine walk ?_)
    rw [show (decide ((k : Int) < (q.z.eras.length : Int)) && sets) = sets by rw [h]; rfl]
    exact ⟨SFA, STA⟩
   ·repeat (first | (refine js ?_; (refine bx ?_; intro bk)) | refine walk ?_)
    rw [show (decide ((k : Int) < (q.z.eras.length : Int)) && sets) = false by rw [h]; rfl]
    exact ⟨SFA, STA⟩
  rintro fr' O' ⟨hf, hO⟩
  apply thenQ_n
  refine ZbV hf hO ?_
  clear hf hO fr' O'
  refine Zag rfl (fun h => ?_) (fun h => ?_)
  ·rw [Bool.and_eq_true] at h
   obtain ⟨h1, h2⟩ := h
   have hk2 : k < q.z.eras.length := by simpa using h1
   have hge : q.z.eras[k]? = some q.z.eras[k] := List.getElem?_eq_getElem hk2
   have hsz := hz2 _ (List.getElem_mem hk2)
   obtain ⟨he1, he2⟩ := set_step (rnE more) q.z.eras k _ hge
   generalize q.z.eras[k] = e at *
   have hx3 : (((q.z.eras.take k).map (rnE more) ++ q.z.eras.drop k).flatMap DEra.enc)[((k : Int)).toNat * 13 + 1]? = some (.int .i64 e.kind) := ZaG DEra.len ((q.z.eras.take k).map (rnE more) ++ q.z.eras.drop k) k e 1 _ he1 rfl
   have hx4 : (((q.z.eras.take k).map (rnE more) ++ q.z.eras.drop k).flatMap DEra.enc)[((k : Int)).toNat * 13 + 3]? = some (.string e.set) := ZaG DEra.len ((q.z.eras.take k).map (rnE more) ++ q.z.eras.drop k) k e 3 _ he1 rfl
   repeat (first | (apply RL_pu; rfl; (first | (apply ZaB; rfl; rfl; omega; omega; (intro w' _ hO; exact ZbE (hO.of (A := .row (.slice Z _ kz) _ _ _ _) (by repeat' constructor)) (by omega))) | (apply ZaB; rfl; rfl; omega; omega; (intro w' _ hO; exact ZbE (hO.of (A := .row (.slice q.A _ q.c) _ _ _ _) (by repeat' constructor)) (by omega))) | (apply Zbo; rfl) | (apply ZbR; rfl; (focus repeat' constructor); first | exact hx2 | exact hx3))) | (refine js ?_; (refine bx ?_; intro bk)) | refine walk1 ?_)
   refine Zag rfl (fun h3 => ?_) (fun h3 => ?_)
   ·have hrn : rnE more e = { e with set := e.set ++ more } := if_pos (of_decide_eq_true h3)
    rw [hrn] at he2
    have hst2 := ZdY DEra.len 3 [.string (e.set ++ more)] (by simp only [List.length_cons, List.length_nil]; omega) e { e with set := e.set ++ more } rfl ((q.z.eras.take k).map (rnE more) ++ q.z.eras.drop k) k he1
    rw [he2] at hst2
    repeat (first | (apply RL_pu; rfl; (first | (apply ZaB; rfl; rfl; omega; omega; (intro w' _ hO; exact ZbE (hO.of (A := .row (.slice Z _ kz) _ _ _ _) (by repeat' constructor)) (by omega))) | (apply ZaB; rfl; rfl; omega; omega; (intro w' _ hO; exact ZbE (hO.of (A := .row (.slice q.A _ q.c) _ _ _ _) (by repeat' constructor)) (by omega))) | (apply Zbo; rfl) | (apply ZbR; rfl; (focus repeat' constructor); first | exact hx2 | exact hx4) | (apply ZcG; rfl; rfl; omega))) | (refine js ?_; (first | (apply Zcq; rfl; rfl; (focus repeat' constructor); rfl; rfl; rfl; (rw [ZaF DEra.len, hml3]; omega); decide; exact hst2) | (refine bx ?_; intro bk))) | refine walk1 ?_)
    exact ⟨k + 1, OA, ⟨OA, fun h => by rw [h2] at h; cases h⟩, SFA, STA⟩
   ·have hrn : rnE more e = e := if_neg (of_decide_eq_false h3)
    rw [hrn] at he2
    have hsame : ((q.z.eras.take k).map (rnE more) ++ q.z.eras.drop k).set k e = ((q.z.eras.take k).map (rnE more) ++ q.z.eras.drop k) := by
     apply List.ext_getElem?
     intro j
     by_cases hj : k = j
     ·subst hj
      rw [List.getElem?_set_self (by rw [hml3]; exact hk2), he1]
     ·rw [List.getElem?_set_ne hj]
    rw [hsame] at he2
    repeat (first | (refine js ?_; (refine bx ?_; intro bk)) | refine walk ?_)
    exact ⟨k + 1, OA, ⟨OA, fun h => by rw [h2] at h; cases h⟩, SFA, by rw [← he2]; exact STA⟩
  have hend : ((q.z.eras.take k).map (rnE more) ++ q.z.eras.drop k) = onB sets (rnE more) q.z.eras := onB_end (fun hb => by rw [hb, Bool.and_true] at h; have := of_decide_eq_false h; omega) hk0
  rw [hend]
  have hel : (fz more sets q).z.eras.length = q.z.eras.length := Zdo _ _ _
  have hel2 : ZaV (fz more sets q) = .row (.slice q.A q.z.eras.length q.c) 74 13 q.z.eras.length ((onB sets (rnE more) q.z.eras).flatMap DEra.enc) := by
   simp only [ZaV, hel]
   rfl
  rw [← hel2]
  repeat (first | (refine js ?_; (refine bx ?_; intro bk)) | refine walk ?_)
  subst hT hM
  exact ⟨⟨i + 1, fz more sets q :: Zd⟩, OA, ⟨OA, hZd2⟩, SFA, STA⟩
 have hiz : i = Zs.length := by simp only [decide_eq_false_iff_not, Int.ofNat_lt] at h; omega
 subst hiz
 rw [List.take_length] at hZd
 rw [List.take_length, List.drop_length, List.append_nil, List.map_nil, List.append_nil]
 have hperm : (Zd.map ZaV).Perm ((Zs.map (fz more sets)).map ZaV) := by
  rw [← hZd]
  exact ((List.reverse_perm Zd).symm.map ZaV)
 refine W_perm _ (SubO.permT (l := [_, _, _, _, _, _]) (.refl _) hperm) ?_
 have hzf : (Zs.map (fz more sets)).map ZE.z = a.zones.map (rnZ more sets) := by
  rw [← hZ, List.map_map, List.map_map]
  rfl
 have hzfl : (Zs.map (fz more sets)).length = Zs.length := List.length_map _
 clear hperm hZd hi h Zd
 generalize hTF : (Zs.map (fz more sets)).map ZaV = TF
 repeat (first | (refine js ?_; (refine bx ?_; intro bk)) | refine walk ?_)
 refine Zal [(1, .string more), (2, .bool sets), (3, .pointer (some ⟨b3, 0, none⟩)), (6, .pointer (some ⟨b6, 0, none⟩))] (.row (.slice Z Zs.length kz) 54 2 Zs.length ((Zs.map (fz more sets)).flatMap ZE.enc) :: .row (.slice R a.rules.length kr) 118 11 a.rules.length (Ru.flatMap Zaa.enc) :: .row (.slice H a.shifts.length kh) 9 1 a.shifts.length (a.shifts.flatMap Zau) :: .blk b3 [.slice R a.rules.length kr, .slice Z Zs.length kz, .slice L a.links.length kl, .slice H a.shifts.length kh] 34 :: .blk b6 [.slice none 0 0, .slice none 0 0, .slice none 0 0, .slice none 0 0] 34 :: TF) (fun g : Nat => [(10, .int .i64 g)]) (fun g => [.row (.slice L a.links.length kl) 56 2 a.links.length (((a.links.take g).map (rnL more) ++ a.links.drop g).flatMap ZaC.enc)]) (fun g => g ≤ a.links.length) (fun g => a.links.length - g) 0 SFA STA (Nat.zero_le _) ?_
 intro k hk
 have hml := mix_len (rnL more) a.links k hk
 repeat (first | (refine js ?_; (refine bx ?_; intro bk)) | refine walk ?_)
 refine Zag rfl (fun h => ?_) (fun h => ?_)
 ·have hk2 : k < a.links.length := by simpa using h
  have hget : a.links[k]? = some a.links[k] := List.getElem?_eq_getElem hk2
  obtain ⟨hsz1, hsz2⟩ := hs.l _ (List.getElem_mem hk2)
  obtain ⟨hg1, hg2⟩ := set_step (rnL more) a.links k _ hget
  generalize a.links[k] = x at *
  have hx1 : (((a.links.take k).map (rnL more) ++ a.links.drop k).flatMap ZaC.enc)[((k : Int)).toNat * 2 + 1]? = some (.string x.name) := ZaG ZaC.len ((a.links.take k).map (rnL more) ++ a.links.drop k) k x 1 _ hg1 rfl
  have hst := ZdY ZaC.len 1 [.string (x.name ++ more)] (by simp only [List.length_cons, List.length_nil]; omega) x ⟨x.target, x.name ++ more⟩ rfl ((a.links.take k).map (rnL more) ++ a.links.drop k) k hg1
  have hg3 : (((a.links.take k).map (rnL more) ++ a.links.drop k).set k ⟨x.target, x.name ++ more⟩)[k]? = some ⟨x.target, x.name ++ more⟩ := List.getElem?_set_self (by rw [hml]; exact hk2)
  have hst2 := ZdY ZaC.len 0 [.string (x.target ++ more)] (by simp only [List.length_cons, List.length_nil]; omega) ⟨x.target, x.name ++ more⟩ (rnL more x) rfl _ k hg3
  have hml2 : (((a.links.take k).map (rnL more) ++ a.links.drop k).set k ⟨x.target, x.name ++ more⟩).length = a.links.length := by rw [List.length_set, hml]
  have hx2 : ((((a.links.take k).map (rnL more) ++ a.links.drop k).set k ⟨x.target, x.name ++ more⟩).flatMap ZaC.enc)[((k : Int)).toNat * 2 + 0]? = some (.string x.target) := ZaG ZaC.len _ k _ 0 _ hg3 rfl
  rw [List.set_set, hg2] at hst2
  generalize ((a.links.take k).map (rnL more) ++ a.links.drop k).set k ⟨x.target, x.name ++ more⟩ = M2 at *
  repeat (first | (apply RL_pu; rfl; (first | (apply ZaB; rfl; rfl; omega; omega; (intro w' _ hO; exact ZbE (hO.of (A := .row (.slice L _ kl) _ _ _ _) (by repeat' constructor)) (by omega))) | (apply Zbo; rfl) | (apply ZbR; rfl; (focus repeat' constructor); first | exact hx1 | exact hx2) | (apply ZcG; rfl; rfl; omega))) | (refine js ?_; (first | (apply Zcq; rfl; rfl; (focus repeat' constructor); rfl; rfl; rfl; (rw [ZaF ZaC.len]; omega); decide; first | exact hst | exact hst2) | (refine bx ?_; intro bk))) | refine walk1 ?_)
  exact ⟨k + 1, OA, OA, SFA, STA⟩
 have hkl : k = a.links.length := by simp only [decide_eq_false_iff_not, Int.ofNat_lt] at h; omega
 subst hkl
 rw [List.take_length, List.drop_length, List.append_nil]
 clear h hml hk
 repeat (first | (refine js ?_; (refine bx ?_; intro bk)) | refine walk ?_)
 refine Zal [(1, .string more), (2, .bool sets), (3, .pointer (some ⟨b3, 0, none⟩)), (6, .pointer (some ⟨b6, 0, none⟩))] (.row (.slice L a.links.length kl) 56 2 a.links.length ((a.links.map (rnL more)).flatMap ZaC.enc) :: .row (.slice Z Zs.length kz) 54 2 Zs.length ((Zs.map (fz more sets)).flatMap ZE.enc) :: .row (.slice R a.rules.length kr) 118 11 a.rules.length (Ru.flatMap Zaa.enc) :: .blk b3 [.slice R a.rules.length kr, .slice Z Zs.length kz, .slice L a.links.length kl, .slice H a.shifts.length kh] 34 :: .blk b6 [.slice none 0 0, .slice none 0 0, .slice none 0 0, .slice none 0 0] 34 :: TF) (fun g : Nat => [(11, .int .i64 g)]) (fun g => [.row (.slice H a.shifts.length kh) 9 1 a.shifts.length (((a.shifts.take g).map (rnS more) ++ a.shifts.drop g).flatMap Zau)]) (fun g => g ≤ a.shifts.length ∧ (sets = false → g = 0)) (fun g => a.shifts.length - g) 0 SFA STA ⟨Nat.zero_le _, fun _ => rfl⟩ ?_
 rintro k ⟨hk, hk0⟩
 have hml := mix_len (rnS more) a.shifts k hk
 repeat (first | (refine js ?_; (refine bx ?_; intro bk)) | refine walk ?_)
 refine RL_post (fun fr' O' => Sub [(124, .bool (decide ((k : Int) < (a.shifts.length : Int)) && sets)), (11, .int .i64 k), (1, .string more), (2, .bool sets), (3, .pointer (some ⟨b3, 0, none⟩)), (6, .pointer (some ⟨b6, 0, none⟩))] fr' ∧ SubO (.row (.slice H a.shifts.length kh) 9 1 a.shifts.length (((a.shifts.take k).map (rnS more) ++ a.shifts.drop k).flatMap Zau) :: .row (.slice L a.links.length kl) 56 2 a.links.length ((a.links.map (rnL more)).flatMap ZaC.enc) :: .row (.slice Z Zs.length kz) 54 2 Zs.length ((Zs.map (fz more sets)).flatMap ZE.enc) :: .row (.slice R a.rules.length kr) 118 11 a.rules.length (Ru.flatMap Zaa.enc) :: .blk b3 [.slice R a.rules.length kr, .slice Z Zs.length kz, .slice L a.links.length kl, .slice H a.shifts.length kh] 34 :: .blk b6 [.slice none 0 0, .slice none 0 0, .slice none 0 0, .slice none 0 0] 34 :: TF) O') ?_ ?_
 ·refine Zdj 122 rfl (fun h => ?_) (fun h => ?_)
  ·repeat (first | (refine js ?_; (refine bx ?_; intro bk)) | refine walk ?_)
   rw [show (decide ((k : Int) < (a.shifts.length : Int)) && sets) = sets by rw [h]; rfl]
   exact ⟨SFA, STA⟩
  ·repeat (first | (refine js ?_; (refine bx ?_; intro bk)) | refine walk ?_)
   rw [show (decide ((k : Int) < (a.shifts.length : Int)) && sets) = false by rw [h]; rfl]
   exact ⟨SFA, STA⟩
 rintro fr' O' ⟨hf, hO⟩
 apply thenQ_n
 refine ZbV hf hO ?_
 clear hf hO fr' O'
 refine Zag rfl (fun h => ?_) (fun h => ?_)
 ·rw [Bool.and_eq_true] at h
  obtain ⟨h1, h2⟩ := h
  have hk2 : k < a.shifts.length := by simpa using h1
  have hget : a.shifts[k]? = some a.shifts[k] := List.getElem?_eq_getElem hk2
  have hsz := hs.s _ (List.getElem_mem hk2)
  obtain ⟨hg1, hg2⟩ := set_step (rnS more) a.shifts k _ hget
  generalize a.shifts[k] = x at *
  have hx1 : (((a.shifts.take k).map (rnS more) ++ a.shifts.drop k).flatMap Zau)[((k : Int)).toNat * 1]? = some (.string x) := ZaG Zau.len ((a.shifts.take k).map (rnS more) ++ a.shifts.drop k) k x 0 _ hg1 rfl
  have hst := ZdY Zau.len 0 [.string (x ++ more)] (by simp only [List.length_cons, List.length_nil]; omega) x (rnS more x) rfl ((a.shifts.take k).map (rnS more) ++ a.shifts.drop k) k hg1
  rw [hg2, Nat.add_zero] at hst
  repeat (first | (apply RL_pu; rfl; (first | (apply ZaB; rfl; rfl; omega; omega; (intro w' _ hO; exact ZbE (hO.of (A := .row (.slice H _ kh) _ _ _ _) (by repeat' constructor)) (by omega))) | (apply ZbR; rfl; (focus repeat' constructor); exact hx1) | (apply ZcG; rfl; rfl; omega))) | (refine js ?_; (first | (apply Zcq; rfl; rfl; (focus repeat' constructor); rfl; rfl; rfl; (rw [ZaF Zau.len, hml]; omega); decide; exact hst) | (refine bx ?_; intro bk))) | refine walk1 ?_)
  exact ⟨k + 1, OA, ⟨OA, fun h => by rw [h2] at h; cases h⟩, SFA, STA⟩
 have hend : ((a.shifts.take k).map (rnS more) ++ a.shifts.drop k) = onB sets (rnS more) a.shifts := onB_end (fun hb => by rw [hb, Bool.and_true] at h; have := of_decide_eq_false h; omega) hk0
 rw [hend]
 subst hTF
 repeat (first | (refine js ?_; (refine bx ?_; intro bk)) | refine walk ?_)
 subst hRu
 rw [← Zdo sets (rnR more) a.rules, ← hzfl, ← (List.length_map (rnL more) : (a.links.map (rnL more)).length = a.links.length), ← Zdo sets (rnS more) a.shifts]
 exact ret_1 (.agg #[.slice R (onB sets (rnR more) a.rules).length kr, .slice Z (Zs.map (fz more sets)).length kz, .slice L (a.links.map (rnL more)).length kl, .slice H (onB sets (rnS more) a.shifts).length kh]) (rowR R kr (onB sets (rnR more) a.rules) :: rowZ Z kz (Zs.map (fz more sets)) :: rowL L kl (a.links.map (rnL more)) :: rowS H kh (onB sets (rnS more) a.shifts) :: (Zs.map (fz more sets)).map ZaV) (.cellB rfl (by repeat' constructor) rfl rfl) STA ⟨R, kr, Z, kz, L, kl, H, kh, Zs.map (fz more sets), by simp only [srcV, renD]; rw [← hzf, List.length_map (f := ZE.z)], hzf, rfl⟩
end Go.Proofs.YtpcpmndldgejiaaGreatDoor
namespace Go.Proofs.YtpcpmndldgejiaaGreatDoor
open Go Go.RowKit Go.Wk
attribute [local irreducible] W RL Does Zat Zak retQ Calls Pu Stp RD Qy Ay
structure SE (α : Type) where
 l : List α
 A : Option Addr
 c : Nat
def SE.enc {α : Type} (q : SE α) : List Value := [.slice q.A q.l.length q.c]
theorem SE.len {α : Type} (q : SE α) : q.enc.length = 1 := rfl
def tot {α : Type} : List (SE α) → Nat
 | [] => 0
 | q :: r => q.l.length + tot r
def ZeB {α : Type} : List (SE α) → List α
 | [] => []
 | q :: r => q.l ++ ZeB r
theorem growL_spec (k : Nat) (w : World) (hk : k ≤ 10000000) : Does Tryz.prog 80 [.slice none 0 0, .int .i64 k] w (fun v O => ∃ A c, v = .slice A 0 c ∧ O = [.row (.slice A 0 c) 56 2 0 []]) := by
 refine Zab Tryz.func80 rfl rfl rfl rfl ?_
 repeat (first | refine walk ?_)
 refine Zag rfl (fun h2 => ?_) (fun h2 => ?_)
 ·simp only [decide_eq_true_eq] at h2
  repeat (first | (refine js ?_; (apply Stp_appendZ (k := k); rfl; rfl; omega; omega; (simp only [maxLen]; omega); omega; intro b c' hc1 hc2)) | refine walk ?_)
  exact ret_1 _ _ (.tmp rfl) (.refl _) ⟨_, _, rfl, rfl⟩
 refine Zcd 56 2 ?_
 repeat (first | refine walk ?_)
 exact ret_1 _ _ (.tmp rfl) (.refl _) ⟨_, _, rfl, rfl⟩
theorem concatL_spec (A : Option Addr) (c : Nat) (vs : List (SE ZaC)) (w : World) (hA : RdSl w A c SE.enc 1 vs) (hV : ∀ q ∈ vs, RdSl w q.A q.c ZaC.enc 2 q.l) (hn : tot vs ≤ 10000000) (hn2 : vs.length ≤ 1000000) :
  Does Tryz.prog 39 [.slice A vs.length c] w (NewSl 56 2 ZaC.enc (ZeB vs)) := by
 refine Zab Tryz.func39 rfl rfl rfl rfl ?_
 repeat (first | refine walk ?_)
 refine Zal [(0, _), (9, _), (10, _)] [] (fun g : Nat × Nat => [(3, .int .i64 g.2), (11, .int .i64 g.1)]) (fun _ => []) (fun g => g.1 ≤ vs.length ∧ g.2 + tot (vs.drop g.1) = tot vs) (fun g => vs.length - g.1) (0, 0) ⟨rfl, rfl, rfl, rfl, rfl, trivial⟩ .nil ⟨by simp, by simp⟩ ?_
 rintro ⟨k, s⟩ ⟨hk, hi⟩
 dsimp only at hk hi ⊢
 repeat (first | refine walk ?_)
 refine Zag rfl (fun hc => ?_) (fun hc => ?_)
 ·simp only [decide_eq_true_eq, Int.ofNat_lt] at hc
  obtain ⟨hna, hca⟩ := hA.rd k _ (List.getElem?_eq_getElem hc)
  have hnb := hna
  have hcb := hca
  rw [Zai hc, tot] at hi
  generalize vs[k] = q at *
  repeat (first | (apply RL_pu; rfl; exact PuI) | refine walk1 ?_)
  exact ⟨(k + 1, s + q.l.length), OA, ⟨OA, by dsimp only; omega⟩, SFA, SOA⟩
 simp only [decide_eq_false_iff_not, Int.ofNat_lt] at hc
 rw [List.drop_eq_nil_of_le (by omega), tot] at hi
 repeat (first | (refine js ?_; (apply Zah (h := fun w' _ _ => growL_spec s w' (by omega)); rfl; rintro v O' ⟨A1, c1, rfl, rfl⟩)) | refine walk ?_)
 refine Zal [(25, _), (26, _)] [] (fun g : AG ZaC => [(6, .slice g.A g.m g.c), (27, .int .i64 g.k)]) (fun g => [.row (.slice g.A g.m g.c) 56 2 g.m g.xs]) (fun g => g.k ≤ vs.length ∧ g.m = g.acc.length ∧ g.xs = g.acc.flatMap ZaC.enc ∧ g.m + tot (vs.drop g.k) = tot vs ∧ g.acc ++ ZeB (vs.drop g.k) = ZeB vs) (fun g => vs.length - g.k) ⟨0, A1, c1, 0, [], []⟩ ⟨rfl, rfl, rfl, rfl, trivial⟩ SOA ⟨by simp, rfl, rfl, by simp, by simp⟩ ?_
 clear hk hc hi
 rintro ⟨k, A2, c2, m, xs, acc⟩ ⟨hk, hm, hx, hi, hj⟩
 dsimp only at hk hm hx hi hj ⊢
 repeat (first | refine walk ?_)
 refine Zag rfl (fun hc => ?_) (fun hc => ?_)
 ·simp only [decide_eq_true_eq, Int.ofNat_lt] at hc
  obtain ⟨hna, hca⟩ := hA.rd k _ (List.getElem?_eq_getElem hc)
  have hnb := hna
  have hcb := hca
  have hq := hV _ (List.getElem_mem hc)
  rw [Zai hc, tot] at hi
  rw [Zai hc, ZeB] at hj
  generalize vs[k] = q at *
  repeat (first | (apply RL_pu; rfl; exact PuI) | (refine js ?_; (apply Zaq (xs := xs); rfl; rfl; (intro A' c'; (focus repeat' constructor)); (intro w' hw _; exact (hq.up hw).rd.raw ZaC.len (by decide)); exact ZaF ZaC.len _; exact Zby oneL _; (simp only [maxLen]; omega); omega; intro A' c' hc1 hc2 hc3)) | refine walk1 ?_)
  exact ⟨⟨k + 1, A', c', m + q.l.length, xs ++ q.l.flatMap ZaC.enc, acc ++ q.l⟩, OA, ⟨OA, by simp [hm], by rw [hx]; simp, by dsimp only; omega, by rw [← hj]; simp⟩, SFA, SOA⟩
 simp only [decide_eq_false_iff_not, Int.ofNat_lt] at hc
 rw [List.drop_eq_nil_of_le (by omega), ZeB, List.append_nil] at hj
 repeat (first | refine walk ?_)
 subst hm hx
 exact ret_1 _ [rowL A2 c2 acc] (.tmp rfl) SOA ⟨A2, c2, by rw [← hj], by rw [← hj]⟩
theorem growZ_spec (k : Nat) (w : World) (hk : k ≤ 10000000) : Does Tryz.prog 81 [.slice none 0 0, .int .i64 k] w (fun v O => ∃ A c, v = .slice A 0 c ∧ O = [.row (.slice A 0 c) 54 2 0 []]) := by
 refine Zab Tryz.func81 rfl rfl rfl rfl ?_
 repeat (first | refine walk ?_)
 refine Zag rfl (fun h2 => ?_) (fun h2 => ?_)
 ·simp only [decide_eq_true_eq] at h2
  repeat (first | (refine js ?_; (apply Stp_appendZ (k := k); rfl; rfl; omega; omega; (simp only [maxLen]; omega); omega; intro b c' hc1 hc2)) | refine walk ?_)
  exact ret_1 _ _ (.tmp rfl) (.refl _) ⟨_, _, rfl, rfl⟩
 refine Zcd 54 2 ?_
 repeat (first | refine walk ?_)
 exact ret_1 _ _ (.tmp rfl) (.refl _) ⟨_, _, rfl, rfl⟩
theorem concatZ_spec (A : Option Addr) (c : Nat) (vs : List (SE ZE)) (w : World) (hA : RdSl w A c SE.enc 1 vs) (hV : ∀ q ∈ vs, RdSl w q.A q.c ZE.enc 2 q.l) (hn : tot vs ≤ 10000000) (hn2 : vs.length ≤ 1000000) :
  Does Tryz.prog 42 [.slice A vs.length c] w (NewSl 54 2 ZE.enc (ZeB vs)) := by
 refine Zab Tryz.func42 rfl rfl rfl rfl ?_
 repeat (first | refine walk ?_)
 refine Zal [(0, _), (9, _), (10, _)] [] (fun g : Nat × Nat => [(3, .int .i64 g.2), (11, .int .i64 g.1)]) (fun _ => []) (fun g => g.1 ≤ vs.length ∧ g.2 + tot (vs.drop g.1) = tot vs) (fun g => vs.length - g.1) (0, 0) ⟨rfl, rfl, rfl, rfl, rfl, trivial⟩ .nil ⟨by simp, by simp⟩ ?_
 rintro ⟨k, s⟩ ⟨hk, hi⟩
 dsimp only at hk hi ⊢
 repeat (first | refine walk ?_)
 refine Zag rfl (fun hc => ?_) (fun hc => ?_)
 ·simp only [decide_eq_true_eq, Int.ofNat_lt] at hc
  obtain ⟨hna, hca⟩ := hA.rd k _ (List.getElem?_eq_getElem hc)
  have hnb := hna
  have hcb := hca
  rw [Zai hc, tot] at hi
  generalize vs[k] = q at *
  repeat (first | (apply RL_pu; rfl; exact PuI) | refine walk1 ?_)
  exact ⟨(k + 1, s + q.l.length), OA, ⟨OA, by dsimp only; omega⟩, SFA, SOA⟩
 simp only [decide_eq_false_iff_not, Int.ofNat_lt] at hc
 rw [List.drop_eq_nil_of_le (by omega), tot] at hi
 repeat (first | (refine js ?_; (apply Zah (h := fun w' _ _ => growZ_spec s w' (by omega)); rfl; rintro v O' ⟨A1, c1, rfl, rfl⟩)) | refine walk ?_)
 refine Zal [(25, _), (26, _)] [] (fun g : AG ZE => [(6, .slice g.A g.m g.c), (27, .int .i64 g.k)]) (fun g => [.row (.slice g.A g.m g.c) 54 2 g.m g.xs]) (fun g => g.k ≤ vs.length ∧ g.m = g.acc.length ∧ g.xs = g.acc.flatMap ZE.enc ∧ g.m + tot (vs.drop g.k) = tot vs ∧ g.acc ++ ZeB (vs.drop g.k) = ZeB vs) (fun g => vs.length - g.k) ⟨0, A1, c1, 0, [], []⟩ ⟨rfl, rfl, rfl, rfl, trivial⟩ SOA ⟨by simp, rfl, rfl, by simp, by simp⟩ ?_
 clear hk hc hi
 rintro ⟨k, A2, c2, m, xs, acc⟩ ⟨hk, hm, hx, hi, hj⟩
 dsimp only at hk hm hx hi hj ⊢
 repeat (first | refine walk ?_)
 refine Zag rfl (fun hc => ?_) (fun hc => ?_)
 ·simp only [decide_eq_true_eq, Int.ofNat_lt] at hc
  obtain ⟨hna, hca⟩ := hA.rd k _ (List.getElem?_eq_getElem hc)
  have hnb := hna
  have hcb := hca
  have hq := hV _ (List.getElem_mem hc)
  rw [Zai hc, tot] at hi
  rw [Zai hc, ZeB] at hj
  generalize vs[k] = q at *
  repeat (first | (apply RL_pu; rfl; exact PuI) | (refine js ?_; (apply Zaq (xs := xs); rfl; rfl; (intro A' c'; (focus repeat' constructor)); (intro w' hw _; exact (hq.up hw).rd.raw ZE.len (by decide)); exact ZaF ZE.len _; exact Zby oneZ _; (simp only [maxLen]; omega); omega; intro A' c' hc1 hc2 hc3)) | refine walk1 ?_)
  exact ⟨⟨k + 1, A', c', m + q.l.length, xs ++ q.l.flatMap ZE.enc, acc ++ q.l⟩, OA, ⟨OA, by simp [hm], by rw [hx]; simp, by dsimp only; omega, by rw [← hj]; simp⟩, SFA, SOA⟩
 simp only [decide_eq_false_iff_not, Int.ofNat_lt] at hc
 rw [List.drop_eq_nil_of_le (by omega), ZeB, List.append_nil] at hj
 repeat (first | refine walk ?_)
 subst hm hx
 exact ret_1 _ [rowZ A2 c2 acc] (.tmp rfl) SOA ⟨A2, c2, by rw [← hj], by rw [← hj]⟩
def alikeB (a b : Zaf) (set : ByteArray) : Bool := decide ((ofB a.rules set).length = 0) || (decide (ofB a.rules set = ofB b.rules set) && (memB set a.shifts == memB set b.shifts))
theorem rdNil {α : Type} (w : World) (enc : α → List Value) (sz : Nat) : RdSl w none 0 enc sz [] := ⟨Nat.le_refl _, Nat.zero_le _, fun _ _ h => by simp at h⟩
def ZeF (a b : Zaf) : List ByteArray → Option ByteArray
 | [] => none
 | x :: l => if alikeB a b x then ZeF a b l else some x
def Zbu (a : Zaf) : List ByteArray → Nat → Option Nat
 | [], _ => none
 | x :: l, k => if takenB x a then some k else Zbu a l (k + 1)
def chkB (a b : Zaf) : Option Zax :=
 match ZeF a b (Za0 b.rules []) with
 | some x => some ⟨1, firstOf b.rules x 0, 0⟩
 | none => match Zbu a (b.zones.map (·.name)) 0 with
  | some i => some ⟨2, i, 0⟩
  | none => match Zbu a (b.links.map (·.name)) 0 with
   | some i => some ⟨3, i, 0⟩
   | none => none
theorem namesB_memK (x : ByteArray) : ∀ (l : List Zaa) (acc : List ByteArray), x ∈ Za0 l acc → x ∈ acc ∨ ∃ r ∈ l, r.name = x
 | [], acc, h => .inl h
 | r :: l, acc, h => by
  simp only [Za0] at h
  split at h
  ·rcases namesB_memK x l acc h with h | ⟨r', h1, h2⟩
   ·exact .inl h
   ·exact .inr ⟨r', List.mem_cons_of_mem _ h1, h2⟩
  ·rcases namesB_memK x l _ h with h | ⟨r', h1, h2⟩
   ·rcases List.mem_append.1 h with h | h
    ·exact .inl h
    ·exact .inr ⟨r, List.mem_cons_self, (List.mem_singleton.1 h).symm⟩
   ·exact .inr ⟨r', List.mem_cons_of_mem _ h1, h2⟩
theorem namesB_lenK : ∀ (l : List Zaa) (acc : List ByteArray), (Za0 l acc).length ≤ acc.length + l.length
 | [], acc => Nat.le_refl _
 | r :: l, acc => by
  simp only [Za0]
  split
  ·have := namesB_lenK l acc; simp only [List.length_cons]; omega
  ·have := namesB_lenK l (acc ++ [r.name]); simp only [List.length_cons, List.length_append, List.length_nil] at this ⊢; omega
theorem find_first (x : ByteArray) : ∀ (l : List Zaa) (k : Nat), (∃ r ∈ l, r.name = x) → ZbH (fun r => decide (r.name = x)) l k = firstOf l x k
 | [], _, h => by simp at h
 | r :: l, k, h => by
  simp only [ZbH, firstOf, decide_eq_true_eq]
  split
  ·rfl
  ·rename_i hn
   refine find_first x l (k + 1) ?_
   obtain ⟨r', h1, h2⟩ := h
   rcases List.mem_cons.1 h1 with rfl | h1
   ·exact absurd h2 hn
   ·exact ⟨r', h1, h2⟩
theorem SetsM.at_ {m : List (ByteArray × Value)} {rs : List Zaa} (h : SetsM m rs) (x : ByteArray) : ∃ A c, (mget m x).getD (.slice none 0 0) = .slice A (ofB rs x).length c ∧ (∀ w, SetsAt m rs w → RdSl w A c Zaa.enc 11 (ofB rs x)) ∧ (mget m x).isSome = !decide ((ofB rs x).length = 0) := by
 have := h x
 cases hm : mget m x with
 | none =>
  rw [hm] at this
  rw [this]
  exact ⟨none, 0, rfl, fun _ _ => rdNil _ _ _, rfl⟩
 | some v =>
  rw [hm] at this
  obtain ⟨h1, A, c, rfl⟩ := this
  refine ⟨A, c, rfl, fun w hw => hw x A _ c hm, ?_⟩
  have : (ofB rs x).length ≠ 0 := fun h => h1 (List.length_eq_zero_iff.1 h)
  simp [this]
theorem takenB_eq (x : ByteArray) (a : Zaf) : memB x (takenL a) = takenB x a := by
 rw [takenL, takenB]
 generalize a.zones.map (·.name) = l
 induction l with
 | nil => rfl
 | cons y l ih => simp [memB, ih, Bool.or_assoc]
theorem cellOf {w w' : World} {b : Nat} {cs : List Value} {t : TypeId} {v : Value} (h : (It.blk b cs t).sat w) (hw : Bel w.heap.size w w') (hv : cs[0]? = some v) : w'.cell? ⟨b, 0, none⟩ = some v := by
 have h1 : w.cell? ⟨b, 0, none⟩ = some v := by rw [Zcu h, hv]
 exact (hw.cell (World.block_lt_of_cell? w _ h1)).trans h1
def placeOf (o : Option Zax) : Zax := o.getD ⟨0, 0, 0⟩
def errOf (o : Option Zax) : Int := if o.isSome then 10 else 0
theorem Zb7 {G G' : Prop} (k : G') (h : Hold G' → G := by intro k9; (first | refine walk ?_ | (refine jn ?_; (try intro F); (first | (refine stA ?_) | (apply Zae; exact PuA)); refine fin ?_)); exact k9.out) : G := h ⟨k⟩
theorem wkCheck1 {G G' : Prop} (k : G') (h : Hold G' → G := by intro k9; (first | refine walk ?_ | (refine jg ?_; (try intro F); (first | (refine ZaW (fun w' hw hO => Zdq Br dr b.rules 78 [] [.pointer (some ⟨bk, 0, none⟩)] (fun r => decide (r.name = x)) w' (hB.up hw).r (fun r w'' hw2 => checkFn_spec r x ⟨bk, 0, none⟩ w'' (cellOf (cs := [.string x]) (hO.of (by repeat' constructor)) hw2 rfl))) ?_) | (refine stA ?_)); refine fin ?_) | (refine jn ?_; (try intro F); (first | (refine stA ?_) | (apply Zae; exact PuA)); refine fin ?_)); exact k9.out) : G := h ⟨k⟩
theorem PuCheck0 {G : Prop} (h : G := by (first | exact PuI | (apply ZbR; rfl; (focus repeat' constructor); exact hg) | (apply Zbk; rfl; rfl; (focus repeat' constructor); exact hv1; exact hs1))) : G := h
theorem QyCheck0 {G : Prop} (h : G := by first | (apply Qy_y; rfl; exact PuCheck0) | exact QyA) : G := h
theorem PuCheck1 {G : Prop} (h : G := by (apply ZcT; rfl; rfl; (focus repeat' constructor); exact hv2)) : G := h
theorem QyCheck1 {G : Prop} (h : G := by first | (apply Qy_y; rfl; exact PuCheck1) | exact QyA) : G := h
theorem QFCheck1 {G : Prop} (h : G := by repeat (first | exact QF.nil | (apply QF.mk; rfl; rfl; decide +kernel; exact QyCheck1))) : G := h
theorem PuCheck2 {G : Prop} (h : G := by (first | exact PuI | (apply ZcT; rfl; rfl; (focus repeat' constructor); exact (hm3 _).trans (congrArg Value.bool (takenB_eq _ _))))) : G := h
theorem check_spec (Ar Az Al As : Option Addr) (cr cz cl cs : Nat) (a : Zaf) (Br Bz Bl Bs : Option Addr) (dr dz dl ds : Nat) (b : Zaf) (w : World) (hA : Zao w Ar Az Al As cr cz cl cs a) (hB : Zao w Br Bz Bl Bs dr dz dl ds b)
  (hn : Fits a) (hm : Fits b) :
  Does Tryz.prog 37 [srcV Ar Az Al As cr cz cl cs a, srcV Br Bz Bl Bs dr dz dl ds b] w (fun v O => v = .tuple #[.agg (placeOf (chkB a b)).enc.toArray, .int .i64 (errOf (chkB a b))] ∧ O = []) := by
 obtain ⟨hnr, hnz, hnl, hns, hne⟩ := hn
 obtain ⟨hmr, hmz, hml, hms, hme⟩ := hm
 generalize hres : chkB a b = res
 refine Zab Tryz.func37 rfl rfl rfl rfl ?_
 repeat (first | refine walk ?_ | (refine jg ?_; (try intro F); (first | (apply Zah (h := fun w' hw _ => sets_spec Ar Az Al As cr cz cl cs a w' (hA.up hw) hnr); rfl; rintro v O' ⟨b1, m1, S1, rfl, rfl, hm1⟩) | (apply Zah (h := fun w' hw _ => sets_spec Br Bz Bl Bs dr dz dl ds b w' (hB.up hw) hmr); rfl; rintro v O' ⟨b2, m2, S2, rfl, rfl, hm2⟩) | (apply Zah (h := fun w' hw _ => names_spec Br Bz Bl Bs dr dz dl ds b w' (hB.up hw) hmr); rfl; rintro v O' ⟨An, cn, rfl, rfl⟩) | (refine bx ?_; intro bk) | (refine stA ?_)); refine fin ?_) | (refine jn ?_; (try intro F); (first | (refine bx ?_; intro bk) | (refine stA ?_) | (apply Zae; exact PuA)); refine fin ?_) | (apply RD_W; rfl; intro bk))
 have hnl1 : (Za0 b.rules []).length ≤ b.rules.length := by simpa using namesB_lenK b.rules []
 have hmem : ∀ x ∈ Za0 b.rules [], ZbH (fun r => decide (r.name = x)) b.rules 0 = firstOf b.rules x 0 := fun x hx => by
  rcases namesB_memK x _ _ hx with h | h
  ·simp at h
  ·exact find_first x _ 0 h
 simp only [chkB] at hres
 generalize hnn : Za0 b.rules [] = nn at *
 refine Zal [(2, _), (3, _), (4, _), (6, _), (7, _), (23, _), (24, _)] [_, _, _, _, _, _, _, _] (fun k : Nat => [(25, .int .i64 k)]) (fun _ => []) (fun k => k ≤ nn.length ∧ ZeF a b (nn.drop k) = ZeF a b nn) (fun k => nn.length - k) 0 ⟨rfl, rfl, rfl, rfl, rfl, rfl, rfl, rfl, trivial⟩ (.refl _) ⟨by simp, by simp⟩ ?_
 rintro k ⟨hk, hi⟩
 repeat (first | refine Zb7 ?_ | (refine jn ?_; (try intro F); (refine bx ?_; intro bk); refine fin ?_) | (apply RD_W; rfl; intro bk))
 refine Zag rfl (fun hc => ?_) (fun hc => ?_)
 ·simp only [decide_eq_true_eq, Int.ofNat_lt] at hc
  refine W_fact (fun w' _ hO => ZbE (hO.of (A := rowS An cn nn) (by repeat' constructor)) (by omega)) (fun hna => ?_)
  have hnb := hna
  rw [Zai hc, ZeF] at hi
  have hg : (nn.flatMap Zau)[(k : Int).toNat * 1]? = some (.string nn[k]) := ZaG Zau.len nn k _ 0 _ (List.getElem?_eq_getElem hc) rfl
  have hx := hmem _ (List.getElem_mem hc)
  generalize nn[k] = x at *
  obtain ⟨A1, c1, hv1, hr1, hs1⟩ := hm1.at_ x
  obtain ⟨A2, c2, hv2, hr2, hs2⟩ := hm2.at_ x
  repeat (first | (apply RL_pu; rfl; exact PuCheck0) | (apply RD_Q; rfl; rfl; decide +kernel; rfl; rfl; exact QyCheck0) | refine walk1 ?_ | (refine jn ?_; (try intro F); (first | (refine bx ?_; intro bk) | (refine stA ?_) | (apply Zae; first | exact PuCheck0 | exact PuA)); first | refine ⟨_, EndsA, QFCheck0, ?_⟩ | refine fin ?_) | (apply RD_W; rfl; intro bk))
  refine Zce 36 rfl (fun h1 => ?_) (fun h1 => ?_)
  ·repeat (first | (apply RL_pu; rfl; exact PuCheck1) | (apply RD_Q; rfl; rfl; decide +kernel; rfl; rfl; exact QyCheck1) | refine walk1 ?_ | (refine jg ?_; (try intro F); (first | (refine ZaW (fun w' hw hO => equalR_spec A1 A2 c1 c2 (ofB a.rules x) (ofB b.rules x) w' (hr1 w' (ZaQ (hO.of (A := .fact S1 _) (by repeat' constructor)))) (hr2 w' (ZaQ (hO.of (A := .fact S2 _) (by repeat' constructor))))) ?_) | (refine bx ?_; intro bk) | (refine stA ?_)); first | refine ⟨_, EndsA, QFCheck1, ?_⟩ | refine fin ?_) | (refine jn ?_; (try intro F); (first | (refine bx ?_; intro bk) | (refine stA ?_) | (apply Zae; first | exact PuCheck1 | exact PuA)); first | refine ⟨_, EndsA, QFCheck1, ?_⟩ | refine fin ?_) | (apply RD_W; rfl; intro bk))
   refine Zce 43 rfl (fun h2 => ?_) (fun h2 => ?_)
   ·rw [if_neg (by simp only [Bool.not_eq_true', decide_eq_false_iff_not] at h1 h2; simp [alikeB, h1, h2])] at hi
    repeat (first | refine wkCheck1 ?_ | (refine jg ?_; (try intro F); (refine bx ?_; intro bk); refine fin ?_) | (refine jn ?_; (try intro F); (refine bx ?_; intro bk); refine fin ?_) | (apply RD_W; rfl; intro bk))
    refine ret_2 _ _ [] (.cellB rfl (by repeat' constructor) rfl rfl) (.tmp rfl) .nil ⟨?_, rfl⟩
    rw [← hi] at hres
    subst hres
    dsimp only
    rw [← hx]
    rfl
   repeat (first | refine walk ?_ | (refine jg ?_; (try intro F); (first | (refine Zad (fun w' hw => ZcL As cs a.shifts x w' (hA.up hw).s) ?_) | (refine Zad (fun w' hw => ZcL Bs ds b.shifts x w' (hB.up hw).s) ?_) | (refine bx ?_; intro bk) | (refine stA ?_)); refine fin ?_) | (refine jn ?_; (try intro F); (first | (refine bx ?_; intro bk) | (refine stA ?_) | (apply Zae; exact PuA)); refine fin ?_) | (apply RD_W; rfl; intro bk))
   refine Zag rfl (fun h3 => ?_) (fun h3 => ?_)
   ·rw [if_neg (by simp only [Bool.not_eq_true', decide_eq_false_iff_not, Bool.not_eq_false', decide_eq_true_eq] at h1 h2 h3; simp [alikeB, h1, h3])] at hi
    repeat (first | refine wkCheck1 ?_ | (refine jg ?_; (try intro F); (refine bx ?_; intro bk); refine fin ?_) | (refine jn ?_; (try intro F); (refine bx ?_; intro bk); refine fin ?_) | (apply RD_W; rfl; intro bk))
    refine ret_2 _ _ [] (.cellB rfl (by repeat' constructor) rfl rfl) (.tmp rfl) .nil ⟨?_, rfl⟩
    rw [← hi] at hres
    subst hres
    dsimp only
    rw [← hx]
    rfl
   rw [if_pos (by simp only [Bool.not_eq_true', decide_eq_false_iff_not, Bool.not_eq_false', decide_eq_true_eq] at h1 h2 h3; simp [alikeB, h2, h3])] at hi
   repeat (first | refine Zb7 ?_ | (refine jn ?_; (try intro F); (refine bx ?_; intro bk); refine fin ?_) | (apply RD_W; rfl; intro bk))
   exact ⟨k + 1, OA, ⟨OA, hi⟩, SFA, SOA⟩
  rw [if_pos (by simp only [Bool.not_eq_false', decide_eq_true_eq] at h1; simp [alikeB, h1])] at hi
  repeat (first | refine Zb7 ?_ | (refine jn ?_; (try intro F); (refine bx ?_; intro bk); refine fin ?_) | (apply RD_W; rfl; intro bk))
  exact ⟨k + 1, OA, ⟨OA, hi⟩, SFA, SOA⟩
 simp only [decide_eq_false_iff_not, Int.ofNat_lt] at hc
 rw [List.drop_eq_nil_of_le (by omega), ZeF] at hi
 rw [← hi] at hres
 clear hk hc hi
 dsimp only at hres
 repeat (first | refine walk ?_ | (refine jg ?_; (try intro F); (first | (apply Zah (h := fun w' hw _ => mnames_spec Ar Az Al As cr cz cl cs a w' (hA.up hw) hnz hnl); rfl; rintro v O' ⟨b3, m3, rfl, rfl, hm3⟩) | (refine bx ?_; intro bk) | (refine stA ?_)); refine fin ?_) | (refine jn ?_; (try intro F); (first | (refine bx ?_; intro bk) | (refine stA ?_) | (apply Zae; exact PuA)); refine fin ?_) | (apply RD_W; rfl; intro bk))
 refine Zal [(3, _), (4, _), (13, _), (65, _), (66, _)] [_, _, _, _, _, _, _, _, _] (fun k : Nat => [(67, .int .i64 k)]) (fun _ => []) (fun k => k ≤ b.zones.length ∧ Zbu a ((b.zones.drop k).map (·.name)) k = Zbu a (b.zones.map (·.name)) 0) (fun k => b.zones.length - k) 0 ⟨rfl, rfl, rfl, rfl, rfl, rfl, trivial⟩ (.refl _) ⟨by simp, by simp⟩ ?_
 rintro k ⟨hk, hi⟩
 repeat (first | refine Zb7 ?_ | (refine jn ?_; (try intro F); (refine bx ?_; intro bk); refine fin ?_) | (apply RD_W; rfl; intro bk))
 refine Zag rfl (fun hc => ?_) (fun hc => ?_)
 ·simp only [decide_eq_true_eq, Int.ofNat_lt] at hc
  obtain ⟨hna, cs1, ⟨Ae, ce, _, rfl⟩, hca⟩ := hB.z k _ (List.getElem?_eq_getElem hc)
  have hnb := hna
  have hcb := hca
  rw [Zai hc, List.map_cons, Zbu] at hi
  generalize b.zones[k] = z at *
  repeat (first | (apply RL_pu; rfl; exact PuCheck2) | (apply RD_Q; rfl; rfl; decide +kernel; rfl; rfl; exact QyCheck2) | refine walk1 ?_ | (refine jn ?_; (try intro F); (first | (refine bx ?_; intro bk) | (refine stA ?_) | (apply Zae; first | exact PuCheck2 | exact PuA)); first | refine ⟨_, EndsA, QFCheck2, ?_⟩ | refine fin ?_) | (apply RD_W; rfl; intro bk))
  refine Zag rfl (fun h3 => ?_) (fun h3 => ?_)
  ·rw [if_pos h3] at hi
   repeat (first | refine Zb7 ?_ | (refine jn ?_; (try intro F); (refine bx ?_; intro bk); refine fin ?_) | (apply RD_W; rfl; intro bk))
   refine ret_2 _ _ [] (.cellB rfl (by repeat' constructor) rfl rfl) (.tmp rfl) .nil ⟨?_, rfl⟩
   rw [← hi] at hres
   subst hres
   rfl
  rw [if_neg (by rw [h3]; simp)] at hi
  repeat (first | refine Zb7 ?_ | (refine jn ?_; (try intro F); (refine bx ?_; intro bk); refine fin ?_) | (apply RD_W; rfl; intro bk))
  exact ⟨k + 1, OA, ⟨OA, hi⟩, SFA, SOA⟩
 simp only [decide_eq_false_iff_not, Int.ofNat_lt] at hc
 rw [List.drop_eq_nil_of_le (by omega), List.map_nil, Zbu] at hi
 rw [← hi] at hres
 clear hk hc hi
 dsimp only at hres
 repeat (first | refine Zb7 ?_ | (refine jn ?_; (try intro F); (refine bx ?_; intro bk); refine fin ?_) | (apply RD_W; rfl; intro bk))
 refine Zal [(3, _), (4, _), (13, _), (80, _), (81, _)] [_, _, _, _, _, _, _, _, _] (fun k : Nat => [(82, .int .i64 k)]) (fun _ => []) (fun k => k ≤ b.links.length ∧ Zbu a ((b.links.drop k).map (·.name)) k = Zbu a (b.links.map (·.name)) 0) (fun k => b.links.length - k) 0 ⟨rfl, rfl, rfl, rfl, rfl, rfl, trivial⟩ (.refl _) ⟨by simp, by simp⟩ ?_
 rintro k ⟨hk, hi⟩
 repeat (first | refine Zb7 ?_ | (refine jn ?_; (try intro F); (refine bx ?_; intro bk); refine fin ?_) | (apply RD_W; rfl; intro bk))
 refine Zag rfl (fun hc => ?_) (fun hc => ?_)
 ·simp only [decide_eq_true_eq, Int.ofNat_lt] at hc
  obtain ⟨hna, hca⟩ := hB.l.rd k _ (List.getElem?_eq_getElem hc)
  have hnb := hna
  have hcb := hca
  rw [Zai hc, List.map_cons, Zbu] at hi
  generalize b.links[k] = z at *
  repeat (first | (apply RL_pu; rfl; exact PuCheck2) | (apply RD_Q; rfl; rfl; decide +kernel; rfl; rfl; exact QyCheck2) | refine walk1 ?_ | (refine jn ?_; (try intro F); (first | (refine bx ?_; intro bk) | (refine stA ?_) | (apply Zae; first | exact PuCheck2 | exact PuA)); first | refine ⟨_, EndsA, QFCheck2, ?_⟩ | refine fin ?_) | (apply RD_W; rfl; intro bk))
  refine Zag rfl (fun h3 => ?_) (fun h3 => ?_)
  ·rw [if_pos h3] at hi
   repeat (first | refine Zb7 ?_ | (refine jn ?_; (try intro F); (refine bx ?_; intro bk); refine fin ?_) | (apply RD_W; rfl; intro bk))
   refine ret_2 _ _ [] (.cellB rfl (by repeat' constructor) rfl rfl) (.tmp rfl) .nil ⟨?_, rfl⟩
   rw [← hi] at hres
   subst hres
   rfl
  rw [if_neg (by rw [h3]; simp)] at hi
  repeat (first | refine Zb7 ?_ | (refine jn ?_; (try intro F); (refine bx ?_; intro bk); refine fin ?_) | (apply RD_W; rfl; intro bk))
  exact ⟨k + 1, OA, ⟨OA, hi⟩, SFA, SOA⟩
 simp only [decide_eq_false_iff_not, Int.ofNat_lt] at hc
 rw [List.drop_eq_nil_of_le (by omega), List.map_nil, Zbu] at hi
 rw [← hi] at hres
 subst hres
 repeat (first | refine Zb7 ?_ | (refine jn ?_; (try intro F); (refine bx ?_; intro bk); refine fin ?_) | (apply RD_W; rfl; intro bk))
 exact rtC
end Go.Proofs.YtpcpmndldgejiaaGreatDoor
