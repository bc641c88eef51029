/- Contract: analemmalaw34.renamed. -/
import Derived.Test.YtfhjfpikngcknaaDoorCopy
import Derived.Test.YtfhjfpikngcknaaDoorWkQ
import Derived.Test.YtfhjfpikngcknaaDoorMade17
namespace Go.Proofs.YtfhjfpikngcknaaDoor
open Go Go.RowKit Go.Wk

theorem lay_right (a : List Value) : ∀ (vs cs : List Value) (j : Nat), lay (a ++ cs) (a.length + j) vs = a ++ lay cs j vs
  | [], _, _ => rfl
  | v :: r, cs, j => by
    rw [lay, lay, List.set_append_right _ _ (by omega), Nat.add_sub_cancel_left, Nat.add_assoc, lay_right a r _ (j + 1)]
theorem lay_left (c : List Value) : ∀ (vs a : List Value) (j : Nat), j + vs.length ≤ a.length → lay (a ++ c) j vs = lay a j vs ++ c
  | [], _, _, _ => rfl
  | v :: r, a, j, h => by
    simp only [List.length_cons] at h
    rw [lay, lay, List.set_append_left _ _ (by omega), lay_left c r _ (j + 1) (by rw [List.length_set]; omega)]
/-- Cells stored into the k-th element of a row. -/
theorem flat_lay {α : Type} {enc : α → List Value} {sz : Nat} (hsz : ∀ x, (enc x).length = sz) (off : Nat) (vs : List Value) (hb : off + vs.length ≤ sz) (x y : α) (he : lay (enc x) off vs = enc y) : ∀ (l : List α) (k : Nat), l[k]? = some x → lay (l.flatMap enc) (k * sz + off) vs = (l.set k y).flatMap enc
  | [], k, h => by simp at h
  | z :: l, 0, h => by
    simp only [List.getElem?_cons_zero, Option.some.injEq] at h
    subst h
    rw [List.flatMap_cons, List.set_cons_zero, List.flatMap_cons, ← he, Nat.zero_mul, Nat.zero_add, lay_left _ _ _ _ (by rw [hsz]; exact hb)]
  | z :: l, k + 1, h => by
    have ih := flat_lay hsz off vs hb x y he l k (by simpa using h)
    rw [List.flatMap_cons, List.set_cons_succ, List.flatMap_cons, ← ih, show (k + 1) * sz + off = (enc z).length + (k * sz + off) by rw [hsz, Nat.add_mul]; omega, lay_right]
theorem set_step {α : Type} (f : α → α) (l : List α) (k : Nat) (x : α) (hx : l[k]? = some x) : ((l.take k).map f ++ l.drop k)[k]? = some x ∧ ((l.take k).map f ++ l.drop k).set k (f x) = (l.take (k + 1)).map f ++ l.drop (k + 1) := by
  have hk := (List.getElem?_eq_some_iff.1 hx).1
  have hl : ((l.take k).map f).length = k := by rw [List.length_map, List.length_take]; omega
  constructor
  · rw [List.getElem?_append_right (by omega), hl, Nat.sub_self, List.getElem?_drop, Nat.add_zero, hx]
  · rw [List.set_append_right _ _ (by omega), hl, Nat.sub_self, drop_cons hk, List.set_cons_zero, List.take_add_one, hx]
    have e : l[k] = x := (List.getElem?_eq_some_iff.1 hx).2
    simp
theorem mix_len {α : Type} (f : α → α) (l : List α) (k : Nat) (hk : k ≤ l.length) : ((l.take k).map f ++ l.drop k).length = l.length := by
  rw [List.length_append, List.length_map, List.length_take, List.length_drop]; omega

def rnR (m : ByteArray) (r : DRule) : DRule := { r with name := r.name ++ m }
def rnE (m : ByteArray) (e : DEra) : DEra := if e.kind = 2 then { e with set := e.set ++ m } else e
def rnL (m : ByteArray) (x : DLink) : DLink := ⟨x.target ++ m, x.name ++ m⟩
def rnS (m : ByteArray) (x : ByteArray) : ByteArray := x ++ m
def onB {α : Type} (b : Bool) (f : α → α) (l : List α) : List α := if b then l.map f else l
def rnZ (m : ByteArray) (b : Bool) (z : DZone) : DZone := ⟨z.name ++ m, onB b (rnE m) z.eras⟩
def renD (s : DSource) (m : ByteArray) (b : Bool) : DSource := ⟨onB b (rnR m) s.rules, s.zones.map (rnZ m b), s.links.map (rnL m), onB b (rnS m) s.shifts⟩
theorem onB_len {α : Type} (b : Bool) (f : α → α) (l : List α) : (onB b f l).length = l.length := by cases b <;> simp [onB]
theorem onB_end {α : Type} {b : Bool} {f : α → α} {l : List α} {k : Nat} (h1 : b = true → k = l.length) (h2 : b = false → k = 0) : (l.take k).map f ++ l.drop k = onB b f l := by
  cases b with
  | true => rw [h1 rfl]; simp [onB]
  | false => rw [h2 rfl]; simp [onB]
structure ZGr where
  i : Nat
  Zd : List ZE
def fz (m : ByteArray) (b : Bool) (q : ZE) : ZE := ⟨rnZ m b q.z, q.A, q.c⟩
/-- All its names are short. -/
structure Short (s : DSource) : Prop where
  r : ∀ x ∈ s.rules, x.name.size ≤ 1000
  z : ∀ x ∈ s.zones, x.name.size ≤ 1000 ∧ ∀ e ∈ x.eras, e.set.size ≤ 1000
  l : ∀ x ∈ s.links, x.name.size ≤ 1000 ∧ x.target.size ≤ 1000
  s : ∀ x ∈ s.shifts, x.size ≤ 1000
theorem copyQ2_spec (Ar Az Al As : Option Addr) (cr cz cl cs : Nat) (a : DSource) (w : World) (hA : RdSource w Ar Az Al As cr cz cl cs a) (hn : Fits a) :
    Does Tryd.prog 16 [srcV Ar Az Al As cr cz cl cs a] w (fun v O => ∃ Ar cr Az cz Al cl As cs Zs, v = .agg #[.slice Ar a.rules.length cr, .slice Az Zs.length cz, .slice Al a.links.length cl, .slice As a.shifts.length cs] ∧ Zs.map ZE.z = a.zones ∧ O = [rowR Ar cr a.rules, rowZ Az cz Zs, rowL Al cl a.links, rowS As cs a.shifts] ++ Zs.map eraRow) := by
  refine (copyQ_spec Ar Az Al As cr cz cl cs a w hA hn).mono ?_
  rintro v O ⟨Ar, cr, Az, cz, Al, cl, As, cs, Zs, rfl, hz, rfl⟩
  exact ⟨Ar, cr, Az, cz, Al, cl, As, cs, Zs, by rw [srcV, ← hz, List.length_map], hz, rfl⟩
attribute [local irreducible] W RL Does thenQ blockQ retQ Calls Pu Stp RD Qy Ay DoesIn
set_option maxHeartbeats 8000000 in
theorem renamed_spec (Ar Az Al As : Option Addr) (cr cz cl cs : Nat) (a : DSource) (more : ByteArray) (sets : Bool) (w : World) (hA : RdSource w Ar Az Al As cr cz cl cs a) (hn : Fits a) (hs : Short a) (hm : more.size ≤ 1000) :
    Does Tryd.prog 6 [srcV Ar Az Al As cr cz cl cs a, .string more, .bool sets] w (NewSrcR (renD a more sets)) := by
  obtain ⟨hnr, hnz, hnl, hns, hne⟩ := id hn
  refine Does_of_W Tryd.func6 rfl rfl rfl rfl ?_
  repeat (first | ((apply RL_st; rfl; apply Stp_call (h := fun w' hw _ => copyQ2_spec Ar Az Al As cr cz cl cs a w' (hA.up hw) hn); rfl; rintro v O' ⟨R, kr, Z, kz, L, kl, H, kh, Zs, rfl, hZ, rfl⟩); refine RL_tail ?_) | (apply RL_st; rfl; (first | (apply Stp_boxNf; rfl; (focus repeat (first | exact Nf.nil | apply Nf.cons)); intro bk) | (apply Stp_alloc; intro bk))) | refine walk ?_)
  rename_i b3
  generalize bk = b6
  have hzl : Zs.length = a.zones.length := by rw [← hZ, List.length_map]
  refine W_loopF [(1, .string more), (2, .bool sets), (3, .pointer (some ⟨b3, 0, none⟩)), (6, .pointer (some ⟨b6, 0, none⟩))] (.row (.slice Z Zs.length kz) 37 2 Zs.length (Zs.flatMap ZE.enc) :: .row (.slice L a.links.length kl) 39 2 a.links.length (a.links.flatMap DLink.enc) :: .row (.slice H a.shifts.length kh) 9 1 a.shifts.length (a.shifts.flatMap strEnc) :: .blk b3 [.slice R a.rules.length kr, .slice Z Zs.length kz, .slice L a.links.length kl, .slice H a.shifts.length kh] 32 :: .blk b6 [.slice none 0 0, .slice none 0 0, .slice none 0 0, .slice none 0 0] 32 :: Zs.map eraRow) (fun g : Nat => [(7, .int .i64 g)]) (fun g => [.row (.slice R a.rules.length kr) 46 11 a.rules.length (((a.rules.take g).map (rnR more) ++ a.rules.drop g).flatMap DRule.enc)]) (fun g => g ≤ a.rules.length ∧ (sets = false → g = 0)) (fun g => a.rules.length - g) 0 (by repeat (first | exact trivial | refine ⟨rfl, ?_⟩)) (by repeat (first | exact SubO.nil | (apply SubO.cons; (focus repeat' constructor)) | exact .refl _ | apply SubO.drop)) ⟨Nat.zero_le _, fun _ => rfl⟩ ?_
  rintro k ⟨hk, hk0⟩
  have hml := mix_len (rnR more) a.rules k hk
  repeat (first | (apply RL_st; rfl; (first | (apply Stp_boxNf; rfl; (focus repeat (first | exact Nf.nil | apply Nf.cons)); intro bk) | (apply Stp_alloc; intro bk))) | refine walk ?_)
  refine RL_post (fun fr' O' => Sub [(21, .bool (decide ((k : Int) < (a.rules.length : Int)) && sets)), (7, .int .i64 k), (1, .string more), (2, .bool sets), (3, .pointer (some ⟨b3, 0, none⟩)), (6, .pointer (some ⟨b6, 0, none⟩))] fr' ∧ SubO (.row (.slice R a.rules.length kr) 46 11 a.rules.length (((a.rules.take k).map (rnR more) ++ a.rules.drop k).flatMap DRule.enc) :: .row (.slice Z Zs.length kz) 37 2 Zs.length (Zs.flatMap ZE.enc) :: .row (.slice L a.links.length kl) 39 2 a.links.length (a.links.flatMap DLink.enc) :: .row (.slice H a.shifts.length kh) 9 1 a.shifts.length (a.shifts.flatMap strEnc) :: .blk b3 [.slice R a.rules.length kr, .slice Z Zs.length kz, .slice L a.links.length kl, .slice H a.shifts.length kh] 32 :: .blk b6 [.slice none 0 0, .slice none 0 0, .slice none 0 0, .slice none 0 0] 32 :: Zs.map eraRow) O') ?_ ?_
  · refine RL_split 19 rfl (fun h => ?_) (fun h => ?_)
    · repeat (first | (apply RL_st; rfl; (first | (apply Stp_boxNf; rfl; (focus repeat (first | exact Nf.nil | apply Nf.cons)); intro bk) | (apply Stp_alloc; intro bk))) | refine walk ?_)
      rw [show (decide ((k : Int) < (a.rules.length : Int)) && sets) = sets by rw [h]; rfl]
      exact ⟨(by repeat (first | exact trivial | refine ⟨rfl, ?_⟩)), (by repeat (first | exact SubO.nil | (apply SubO.cons; (focus repeat' constructor)) | exact .refl _ | apply SubO.drop))⟩
    · repeat (first | (apply RL_st; rfl; (first | (apply Stp_boxNf; rfl; (focus repeat (first | exact Nf.nil | apply Nf.cons)); intro bk) | (apply Stp_alloc; intro bk))) | refine walk ?_)
      rw [show (decide ((k : Int) < (a.rules.length : Int)) && sets) = false by rw [h]; rfl]
      exact ⟨(by repeat (first | exact trivial | refine ⟨rfl, ?_⟩)), (by repeat (first | exact SubO.nil | (apply SubO.cons; (focus repeat' constructor)) | exact .refl _ | apply SubO.drop))⟩
  rintro fr' O' ⟨hf, hO⟩
  apply thenQ_n
  refine W_sub hf hO ?_
  clear hf hO fr' O'
  refine W_cond rfl (fun h => ?_) (fun h => ?_)
  · rw [Bool.and_eq_true] at h
    obtain ⟨h1, h2⟩ := h
    have hk2 : k < a.rules.length := by simpa using h1
    have hget : a.rules[k]? = some a.rules[k] := List.getElem?_eq_getElem hk2
    have hsz := hs.r _ (List.getElem_mem hk2)
    obtain ⟨hg1, hg2⟩ := set_step (rnR more) a.rules k _ hget
    generalize a.rules[k] = x at *
    have hx1 : (((a.rules.take k).map (rnR more) ++ a.rules.drop k).flatMap DRule.enc)[((k : Int)).toNat * 11 + 0]? = some (.string x.name) := flat_get DRule.len ((a.rules.take k).map (rnR more) ++ a.rules.drop k) k x 0 _ hg1 rfl
    have hst := flat_lay DRule.len 0 [.string (x.name ++ more)] (by simp only [List.length_cons, List.length_nil]; omega) x (rnR more x) rfl ((a.rules.take k).map (rnR more) ++ a.rules.drop k) k hg1
    rw [hg2] at hst
    repeat (first | (apply RL_pu; rfl; (first | (apply Pu_indexAddrH; rfl; rfl; omega; omega; (intro w' _ hO; exact row_some (hO.of (A := .row (.slice R _ kr) _ _ _ _) (by (focus repeat' constructor))) (by omega))) | (apply Pu_fieldAddrA; rfl) | (apply Pu_loadR; rfl; (focus repeat' constructor); exact hx1) | (apply Pu_addS; rfl; rfl; omega))) | (apply RL_st0; (apply Stp_storeR; rfl; rfl; (focus repeat' constructor); rfl; rfl; rfl; (rw [flat_len DRule.len, hml]; omega); decide; exact hst)) | (apply RL_st; rfl; (first | (apply Stp_storeR; rfl; rfl; (focus repeat' constructor); rfl; rfl; rfl; (rw [flat_len DRule.len, hml]; omega); decide; exact hst) | (apply Stp_boxNf; rfl; (focus repeat (first | exact Nf.nil | apply Nf.cons)); intro bk) | (apply Stp_alloc; intro bk))) | refine walk1 ?_)
    exact ⟨k + 1, (by first | omega | (dsimp only; omega)), ⟨(by first | omega | (dsimp only; omega)), fun h => by rw [h2] at h; cases h⟩, (by repeat (first | exact trivial | refine ⟨rfl, ?_⟩)), (by repeat (first | exact SubO.nil | (apply SubO.cons; (focus repeat' constructor)) | exact .refl _ | apply SubO.drop))⟩
  have hend : ((a.rules.take k).map (rnR more) ++ a.rules.drop k) = onB sets (rnR more) a.rules := onB_end (fun hb => by rw [hb, Bool.and_true] at h; have := of_decide_eq_false h; omega) hk0
  rw [hend]
  clear hend h hml hk hk0
  generalize hRu : onB sets (rnR more) a.rules = Ru
  repeat (first | (apply RL_st; rfl; (first | (apply Stp_boxNf; rfl; (focus repeat (first | exact Nf.nil | apply Nf.cons)); intro bk) | (apply Stp_alloc; intro bk))) | refine walk ?_)
  refine W_loop (fun g : ZGr => [(8, .int .i64 g.i), (1, .string more), (2, .bool sets), (3, .pointer (some ⟨b3, 0, none⟩)), (6, .pointer (some ⟨b6, 0, none⟩))]) (fun g => .row (.slice Z Zs.length kz) 37 2 Zs.length (((Zs.take g.i).map (fz more sets) ++ Zs.drop g.i).flatMap ZE.enc) :: .row (.slice R a.rules.length kr) 46 11 a.rules.length (Ru.flatMap DRule.enc) :: .row (.slice L a.links.length kl) 39 2 a.links.length (a.links.flatMap DLink.enc) :: .row (.slice H a.shifts.length kh) 9 1 a.shifts.length (a.shifts.flatMap strEnc) :: .blk b3 [.slice R a.rules.length kr, .slice Z Zs.length kz, .slice L a.links.length kl, .slice H a.shifts.length kh] 32 :: .blk b6 [.slice none 0 0, .slice none 0 0, .slice none 0 0, .slice none 0 0] 32 :: (g.Zd.map eraRow ++ (Zs.drop g.i).map eraRow)) (fun g => g.i ≤ Zs.length ∧ g.Zd.reverse = (Zs.take g.i).map (fz more sets)) (fun g => Zs.length - g.i) ⟨0, []⟩ (by repeat (first | exact trivial | refine ⟨rfl, ?_⟩)) (by repeat (first | exact SubO.nil | (apply SubO.cons; (focus repeat' constructor)) | exact .refl _ | apply SubO.drop)) ⟨Nat.zero_le _, rfl⟩ ?_
  rintro ⟨i, Zd⟩ ⟨hi, hZd⟩
  dsimp only at hi hZd ⊢
  repeat (first | (apply RL_st; rfl; (first | (apply Stp_boxNf; rfl; (focus repeat (first | exact Nf.nil | apply Nf.cons)); intro bk) | (apply Stp_alloc; intro bk))) | refine walk ?_)
  refine W_cond rfl (fun h => ?_) (fun h => ?_)
  · have hi2 : i < Zs.length := by simpa using h
    have hget : Zs[i]? = some Zs[i] := List.getElem?_eq_getElem hi2
    have hqm : Zs[i].z ∈ a.zones := by rw [← hZ]; exact List.mem_map.2 ⟨_, List.getElem_mem hi2, rfl⟩
    obtain ⟨hz1, hz2⟩ := hs.z _ hqm
    have hne2 := hne _ hqm
    obtain ⟨hg1, hg2⟩ := set_step (fz more sets) Zs i _ hget
    have hml := mix_len (fz more sets) Zs i hi
    have hml2 := mix_len (fz more sets) Zs (i + 1) hi2
    have hg3 : ((Zs.take (i + 1)).map (fz more sets) ++ Zs.drop (i + 1))[i]? = some (fz more sets Zs[i]) := by
      rw [← hg2, List.getElem?_set_self (by rw [hml]; exact hi2)]
    have hZd2 : (fz more sets Zs[i] :: Zd).reverse = (Zs.take (i + 1)).map (fz more sets) := by
      rw [List.reverse_cons, hZd, List.take_add_one, hget, List.map_append]
      rfl
    have hdr : (Zs.drop i).map eraRow = eraRow Zs[i] :: (Zs.drop (i + 1)).map eraRow := by rw [drop_cons hi2, List.map_cons]
    rw [hdr]
    generalize Zs[i] = q at *
    refine W_perm (.row (.slice Z Zs.length kz) 37 2 Zs.length (((Zs.take i).map (fz more sets) ++ Zs.drop i).flatMap ZE.enc) :: .row (.slice R a.rules.length kr) 46 11 a.rules.length (Ru.flatMap DRule.enc) :: .row (.slice L a.links.length kl) 39 2 a.links.length (a.links.flatMap DLink.enc) :: .row (.slice H a.shifts.length kh) 9 1 a.shifts.length (a.shifts.flatMap strEnc) :: .blk b3 [.slice R a.rules.length kr, .slice Z Zs.length kz, .slice L a.links.length kl, .slice H a.shifts.length kh] 32 :: .blk b6 [.slice none 0 0, .slice none 0 0, .slice none 0 0, .slice none 0 0] 32 :: eraRow q :: (Zd.map eraRow ++ (Zs.drop (i + 1)).map eraRow)) (SubO.permT (l := [_, _, _, _, _, _]) (.refl _) List.perm_middle) ?_
    generalize hT : Zd.map eraRow ++ (Zs.drop (i + 1)).map eraRow = T
    have hx1 : (((Zs.take i).map (fz more sets) ++ Zs.drop i).flatMap ZE.enc)[((i : Int)).toNat * 2 + 0]? = some (.string q.z.name) := flat_get ZE.len ((Zs.take i).map (fz more sets) ++ Zs.drop i) i q 0 _ hg1 rfl
    have hst := flat_lay ZE.len 0 [.string (q.z.name ++ more)] (by simp only [List.length_cons, List.length_nil]; omega) q (fz more sets q) (by simp [lay, ZE.enc, fz, rnZ, onB_len]) ((Zs.take i).map (fz more sets) ++ Zs.drop i) i hg1
    rw [hg2] at hst
    repeat (first | (apply RL_pu; rfl; (first | (apply Pu_indexAddrH; rfl; rfl; omega; omega; (intro w' _ hO; exact row_some (hO.of (A := .row (.slice Z _ kz) _ _ _ _) (by (focus repeat' constructor))) (by omega))) | (apply Pu_fieldAddrA; rfl) | (apply Pu_loadR; rfl; (focus repeat' constructor); exact hx1) | (apply Pu_addS; rfl; rfl; omega))) | (apply RL_st0; (apply Stp_storeR; rfl; rfl; (focus repeat' constructor); rfl; rfl; rfl; (rw [flat_len ZE.len, hml]; omega); decide; exact hst)) | (apply RL_st; rfl; (first | (apply Stp_storeR; rfl; rfl; (focus repeat' constructor); rfl; rfl; rfl; (rw [flat_len ZE.len, hml]; omega); decide; exact hst) | (apply Stp_boxNf; rfl; (focus repeat (first | exact Nf.nil | apply Nf.cons)); intro bk) | (apply Stp_alloc; intro bk))) | refine walk1 ?_)
    generalize hM : (Zs.take (i + 1)).map (fz more sets) ++ Zs.drop (i + 1) = M at *
    have hx2 : (M.flatMap ZE.enc)[((i : Int)).toNat * 2 + 1]? = some (.slice q.A q.z.eras.length q.c) := by
      have := flat_get ZE.len M i _ 1 _ hg3 rfl
      simpa [fz, rnZ, onB_len] using this
    refine W_loopF [(8, .int .i64 i), (1, .string more), (2, .bool sets), (3, .pointer (some ⟨b3, 0, none⟩)), (6, .pointer (some ⟨b6, 0, none⟩))] (.row (.slice Z Zs.length kz) 37 2 Zs.length (M.flatMap ZE.enc) :: .row (.slice R a.rules.length kr) 46 11 a.rules.length (Ru.flatMap DRule.enc) :: .row (.slice L a.links.length kl) 39 2 a.links.length (a.links.flatMap DLink.enc) :: .row (.slice H a.shifts.length kh) 9 1 a.shifts.length (a.shifts.flatMap strEnc) :: .blk b3 [.slice R a.rules.length kr, .slice Z Zs.length kz, .slice L a.links.length kl, .slice H a.shifts.length kh] 32 :: .blk b6 [.slice none 0 0, .slice none 0 0, .slice none 0 0, .slice none 0 0] 32 :: T) (fun g : Nat => [(9, .int .i64 g)]) (fun g => [.row (.slice q.A q.z.eras.length q.c) 69 13 q.z.eras.length (((q.z.eras.take g).map (rnE more) ++ q.z.eras.drop g).flatMap DEra.enc)]) (fun g => g ≤ q.z.eras.length ∧ (sets = false → g = 0)) (fun g => q.z.eras.length - g) 0 (by repeat (first | exact trivial | refine ⟨rfl, ?_⟩)) (by repeat (first | exact SubO.nil | (apply SubO.cons; (focus repeat' constructor)) | exact .refl _ | apply SubO.drop)) ⟨Nat.zero_le _, fun _ => rfl⟩ ?_
    rintro k ⟨hk, hk0⟩
    have hml3 := mix_len (rnE more) q.z.eras k hk
    repeat (first | (apply RL_pu; rfl; (first | (apply Pu_indexAddrH; rfl; rfl; omega; omega; (intro w' _ hO; exact row_some (hO.of (A := .row (.slice Z _ kz) _ _ _ _) (by (focus repeat' constructor))) (by omega))) | (apply Pu_fieldAddrA; rfl) | (apply Pu_loadR; rfl; (focus repeat' constructor); exact hx2))) | (apply RL_st; rfl; (first | (apply Stp_boxNf; rfl; (focus repeat (first | exact Nf.nil | apply Nf.cons)); intro bk) | (apply Stp_alloc; intro bk))) | refine walk1 ?_)
    refine RL_post (fun fr' O' => Sub [(62, .bool (decide ((k : Int) < (q.z.eras.length : Int)) && sets)), (9, .int .i64 k), (8, .int .i64 i), (1, .string more), (2, .bool sets), (3, .pointer (some ⟨b3, 0, none⟩)), (6, .pointer (some ⟨b6, 0, none⟩))] fr' ∧ SubO (.row (.slice q.A q.z.eras.length q.c) 69 13 q.z.eras.length (((q.z.eras.take k).map (rnE more) ++ q.z.eras.drop k).flatMap DEra.enc) :: .row (.slice Z Zs.length kz) 37 2 Zs.length (M.flatMap ZE.enc) :: .row (.slice R a.rules.length kr) 46 11 a.rules.length (Ru.flatMap DRule.enc) :: .row (.slice L a.links.length kl) 39 2 a.links.length (a.links.flatMap DLink.enc) :: .row (.slice H a.shifts.length kh) 9 1 a.shifts.length (a.shifts.flatMap strEnc) :: .blk b3 [.slice R a.rules.length kr, .slice Z Zs.length kz, .slice L a.links.length kl, .slice H a.shifts.length kh] 32 :: .blk b6 [.slice none 0 0, .slice none 0 0, .slice none 0 0, .slice none 0 0] 32 :: T) O') ?_ ?_
    · refine RL_split 60 rfl (fun h => ?_) (fun h => ?_)
      · repeat (first | (apply RL_st; rfl; (first | (apply Stp_boxNf; rfl; (focus repeat (first | exact Nf.nil | apply Nf.cons)); intro bk) | (apply Stp_alloc; intro bk))) | refine walk ?_)
        rw [show (decide ((k : Int) < (q.z.eras.length : Int)) && sets) = sets by rw [h]; rfl]
        exact ⟨(by repeat (first | exact trivial | refine ⟨rfl, ?_⟩)), (by repeat (first | exact SubO.nil | (apply SubO.cons; (focus repeat' constructor)) | exact .refl _ | apply SubO.drop))⟩
      · repeat (first | (apply RL_st; rfl; (first | (apply Stp_boxNf; rfl; (focus repeat (first | exact Nf.nil | apply Nf.cons)); intro bk) | (apply Stp_alloc; intro bk))) | refine walk ?_)
        rw [show (decide ((k : Int) < (q.z.eras.length : Int)) && sets) = false by rw [h]; rfl]
        exact ⟨(by repeat (first | exact trivial | refine ⟨rfl, ?_⟩)), (by repeat (first | exact SubO.nil | (apply SubO.cons; (focus repeat' constructor)) | exact .refl _ | apply SubO.drop))⟩
    rintro fr' O' ⟨hf, hO⟩
    apply thenQ_n
    refine W_sub hf hO ?_
    clear hf hO fr' O'
    refine W_cond rfl (fun h => ?_) (fun h => ?_)
    · rw [Bool.and_eq_true] at h
      obtain ⟨h1, h2⟩ := h
      have hk2 : k < q.z.eras.length := by simpa using h1
      have hge : q.z.eras[k]? = some q.z.eras[k] := List.getElem?_eq_getElem hk2
      have hsz := hz2 _ (List.getElem_mem hk2)
      obtain ⟨he1, he2⟩ := set_step (rnE more) q.z.eras k _ hge
      generalize q.z.eras[k] = e at *
      have hx3 : (((q.z.eras.take k).map (rnE more) ++ q.z.eras.drop k).flatMap DEra.enc)[((k : Int)).toNat * 13 + 1]? = some (.int .i64 e.kind) := flat_get DEra.len ((q.z.eras.take k).map (rnE more) ++ q.z.eras.drop k) k e 1 _ he1 rfl
      have hx4 : (((q.z.eras.take k).map (rnE more) ++ q.z.eras.drop k).flatMap DEra.enc)[((k : Int)).toNat * 13 + 3]? = some (.string e.set) := flat_get DEra.len ((q.z.eras.take k).map (rnE more) ++ q.z.eras.drop k) k e 3 _ he1 rfl
      repeat (first | (apply RL_pu; rfl; (first | (apply Pu_indexAddrH; rfl; rfl; omega; omega; (intro w' _ hO; exact row_some (hO.of (A := .row (.slice Z _ kz) _ _ _ _) (by (focus repeat' constructor))) (by omega))) | (apply Pu_indexAddrH; rfl; rfl; omega; omega; (intro w' _ hO; exact row_some (hO.of (A := .row (.slice q.A _ q.c) _ _ _ _) (by (focus repeat' constructor))) (by omega))) | (apply Pu_fieldAddrA; rfl) | (apply Pu_loadR; rfl; (focus repeat' constructor); first | exact hx2 | exact hx3))) | (apply RL_st; rfl; (first | (apply Stp_boxNf; rfl; (focus repeat (first | exact Nf.nil | apply Nf.cons)); intro bk) | (apply Stp_alloc; intro bk))) | refine walk1 ?_)
      refine W_cond rfl (fun h3 => ?_) (fun h3 => ?_)
      · have hrn : rnE more e = { e with set := e.set ++ more } := if_pos (of_decide_eq_true h3)
        rw [hrn] at he2
        have hst2 := flat_lay DEra.len 3 [.string (e.set ++ more)] (by simp only [List.length_cons, List.length_nil]; omega) e { e with set := e.set ++ more } rfl ((q.z.eras.take k).map (rnE more) ++ q.z.eras.drop k) k he1
        rw [he2] at hst2
        repeat (first | (apply RL_pu; rfl; (first | (apply Pu_indexAddrH; rfl; rfl; omega; omega; (intro w' _ hO; exact row_some (hO.of (A := .row (.slice Z _ kz) _ _ _ _) (by (focus repeat' constructor))) (by omega))) | (apply Pu_indexAddrH; rfl; rfl; omega; omega; (intro w' _ hO; exact row_some (hO.of (A := .row (.slice q.A _ q.c) _ _ _ _) (by (focus repeat' constructor))) (by omega))) | (apply Pu_fieldAddrA; rfl) | (apply Pu_loadR; rfl; (focus repeat' constructor); first | exact hx2 | exact hx4) | (apply Pu_addS; rfl; rfl; omega))) | (apply RL_st0; (apply Stp_storeR; rfl; rfl; (focus repeat' constructor); rfl; rfl; rfl; (rw [flat_len DEra.len, hml3]; omega); decide; exact hst2)) | (apply RL_st; rfl; (first | (apply Stp_storeR; rfl; rfl; (focus repeat' constructor); rfl; rfl; rfl; (rw [flat_len DEra.len, hml3]; omega); decide; exact hst2) | (apply Stp_boxNf; rfl; (focus repeat (first | exact Nf.nil | apply Nf.cons)); intro bk) | (apply Stp_alloc; intro bk))) | refine walk1 ?_)
        exact ⟨k + 1, (by first | omega | (dsimp only; omega)), ⟨(by first | omega | (dsimp only; omega)), fun h => by rw [h2] at h; cases h⟩, (by repeat (first | exact trivial | refine ⟨rfl, ?_⟩)), (by repeat (first | exact SubO.nil | (apply SubO.cons; (focus repeat' constructor)) | exact .refl _ | apply SubO.drop))⟩
      · have hrn : rnE more e = e := if_neg (of_decide_eq_false h3)
        rw [hrn] at he2
        have hsame : ((q.z.eras.take k).map (rnE more) ++ q.z.eras.drop k).set k e = ((q.z.eras.take k).map (rnE more) ++ q.z.eras.drop k) := by
          apply List.ext_getElem?
          intro j
          by_cases hj : k = j
          · subst hj
            rw [List.getElem?_set_self (by rw [hml3]; exact hk2), he1]
          · rw [List.getElem?_set_ne hj]
        rw [hsame] at he2
        repeat (first | (apply RL_st; rfl; (first | (apply Stp_boxNf; rfl; (focus repeat (first | exact Nf.nil | apply Nf.cons)); intro bk) | (apply Stp_alloc; intro bk))) | refine walk ?_)
        exact ⟨k + 1, (by first | omega | (dsimp only; omega)), ⟨(by first | omega | (dsimp only; omega)), fun h => by rw [h2] at h; cases h⟩, (by repeat (first | exact trivial | refine ⟨rfl, ?_⟩)), by rw [← he2]; exact (by repeat (first | exact SubO.nil | (apply SubO.cons; (focus repeat' constructor)) | exact .refl _ | apply SubO.drop))⟩
    have hend : ((q.z.eras.take k).map (rnE more) ++ q.z.eras.drop k) = onB sets (rnE more) q.z.eras := onB_end (fun hb => by rw [hb, Bool.and_true] at h; have := of_decide_eq_false h; omega) hk0
    rw [hend]
    have hel : (fz more sets q).z.eras.length = q.z.eras.length := onB_len _ _ _
    have hel2 : eraRow (fz more sets q) = .row (.slice q.A q.z.eras.length q.c) 69 13 q.z.eras.length ((onB sets (rnE more) q.z.eras).flatMap DEra.enc) := by
      simp only [eraRow, hel]
      rfl
    rw [← hel2]
    repeat (first | (apply RL_st; rfl; (first | (apply Stp_boxNf; rfl; (focus repeat (first | exact Nf.nil | apply Nf.cons)); intro bk) | (apply Stp_alloc; intro bk))) | refine walk ?_)
    subst hT hM
    exact ⟨⟨i + 1, fz more sets q :: Zd⟩, (by first | omega | (dsimp only; omega)), ⟨(by first | omega | (dsimp only; omega)), hZd2⟩, (by repeat (first | exact trivial | refine ⟨rfl, ?_⟩)), (by repeat (first | exact SubO.nil | (apply SubO.cons; (focus repeat' constructor)) | exact .refl _ | apply SubO.drop))⟩
  have hiz : i = Zs.length := by simp only [decide_eq_false_iff_not, Int.ofNat_lt] at h; omega
  subst hiz
  rw [List.take_length] at hZd
  rw [List.take_length, List.drop_length, List.append_nil, List.map_nil, List.append_nil]
  have hperm : (Zd.map eraRow).Perm ((Zs.map (fz more sets)).map eraRow) := by
    rw [← hZd]
    exact ((List.reverse_perm Zd).symm.map eraRow)
  refine W_perm _ (SubO.permT (l := [_, _, _, _, _, _]) (.refl _) hperm) ?_
  have hzf : (Zs.map (fz more sets)).map ZE.z = a.zones.map (rnZ more sets) := by
    rw [← hZ, List.map_map, List.map_map]
    rfl
  have hzfl : (Zs.map (fz more sets)).length = Zs.length := List.length_map _
  clear hperm hZd hi h Zd
  generalize hTF : (Zs.map (fz more sets)).map eraRow = TF
  repeat (first | (apply RL_st; rfl; (first | (apply Stp_boxNf; rfl; (focus repeat (first | exact Nf.nil | apply Nf.cons)); intro bk) | (apply Stp_alloc; intro bk))) | refine walk ?_)
  refine W_loopF [(1, .string more), (2, .bool sets), (3, .pointer (some ⟨b3, 0, none⟩)), (6, .pointer (some ⟨b6, 0, none⟩))] (.row (.slice Z Zs.length kz) 37 2 Zs.length ((Zs.map (fz more sets)).flatMap ZE.enc) :: .row (.slice R a.rules.length kr) 46 11 a.rules.length (Ru.flatMap DRule.enc) :: .row (.slice H a.shifts.length kh) 9 1 a.shifts.length (a.shifts.flatMap strEnc) :: .blk b3 [.slice R a.rules.length kr, .slice Z Zs.length kz, .slice L a.links.length kl, .slice H a.shifts.length kh] 32 :: .blk b6 [.slice none 0 0, .slice none 0 0, .slice none 0 0, .slice none 0 0] 32 :: TF) (fun g : Nat => [(10, .int .i64 g)]) (fun g => [.row (.slice L a.links.length kl) 39 2 a.links.length (((a.links.take g).map (rnL more) ++ a.links.drop g).flatMap DLink.enc)]) (fun g => g ≤ a.links.length) (fun g => a.links.length - g) 0 (by repeat (first | exact trivial | refine ⟨rfl, ?_⟩)) (by repeat (first | exact SubO.nil | (apply SubO.cons; (focus repeat' constructor)) | exact .refl _ | apply SubO.drop)) (Nat.zero_le _) ?_
  intro k hk
  have hml := mix_len (rnL more) a.links k hk
  repeat (first | (apply RL_st; rfl; (first | (apply Stp_boxNf; rfl; (focus repeat (first | exact Nf.nil | apply Nf.cons)); intro bk) | (apply Stp_alloc; intro bk))) | refine walk ?_)
  refine W_cond rfl (fun h => ?_) (fun h => ?_)
  · have hk2 : k < a.links.length := by simpa using h
    have hget : a.links[k]? = some a.links[k] := List.getElem?_eq_getElem hk2
    obtain ⟨hsz1, hsz2⟩ := hs.l _ (List.getElem_mem hk2)
    obtain ⟨hg1, hg2⟩ := set_step (rnL more) a.links k _ hget
    generalize a.links[k] = x at *
    have hx1 : (((a.links.take k).map (rnL more) ++ a.links.drop k).flatMap DLink.enc)[((k : Int)).toNat * 2 + 1]? = some (.string x.name) := flat_get DLink.len ((a.links.take k).map (rnL more) ++ a.links.drop k) k x 1 _ hg1 rfl
    have hst := flat_lay DLink.len 1 [.string (x.name ++ more)] (by simp only [List.length_cons, List.length_nil]; omega) x ⟨x.target, x.name ++ more⟩ rfl ((a.links.take k).map (rnL more) ++ a.links.drop k) k hg1
    have hg3 : (((a.links.take k).map (rnL more) ++ a.links.drop k).set k ⟨x.target, x.name ++ more⟩)[k]? = some ⟨x.target, x.name ++ more⟩ := List.getElem?_set_self (by rw [hml]; exact hk2)
    have hst2 := flat_lay DLink.len 0 [.string (x.target ++ more)] (by simp only [List.length_cons, List.length_nil]; omega) ⟨x.target, x.name ++ more⟩ (rnL more x) rfl _ k hg3
    have hml2 : (((a.links.take k).map (rnL more) ++ a.links.drop k).set k ⟨x.target, x.name ++ more⟩).length = a.links.length := by rw [List.length_set, hml]
    have hx2 : ((((a.links.take k).map (rnL more) ++ a.links.drop k).set k ⟨x.target, x.name ++ more⟩).flatMap DLink.enc)[((k : Int)).toNat * 2 + 0]? = some (.string x.target) := flat_get DLink.len _ k _ 0 _ hg3 rfl
    rw [List.set_set, hg2] at hst2
    generalize ((a.links.take k).map (rnL more) ++ a.links.drop k).set k ⟨x.target, x.name ++ more⟩ = M2 at *
    repeat (first | (apply RL_pu; rfl; (first | (apply Pu_indexAddrH; rfl; rfl; omega; omega; (intro w' _ hO; exact row_some (hO.of (A := .row (.slice L _ kl) _ _ _ _) (by (focus repeat' constructor))) (by omega))) | (apply Pu_fieldAddrA; rfl) | (apply Pu_loadR; rfl; (focus repeat' constructor); first | exact hx1 | exact hx2) | (apply Pu_addS; rfl; rfl; omega))) | (apply RL_st0; (apply Stp_storeR; rfl; rfl; (focus repeat' constructor); rfl; rfl; rfl; (rw [flat_len DLink.len]; omega); decide; first | exact hst | exact hst2)) | (apply RL_st; rfl; (first | (apply Stp_storeR; rfl; rfl; (focus repeat' constructor); rfl; rfl; rfl; (rw [flat_len DLink.len]; omega); decide; first | exact hst | exact hst2) | (apply Stp_boxNf; rfl; (focus repeat (first | exact Nf.nil | apply Nf.cons)); intro bk) | (apply Stp_alloc; intro bk))) | refine walk1 ?_)
    exact ⟨k + 1, (by first | omega | (dsimp only; omega)), (by first | omega | (dsimp only; omega)), (by repeat (first | exact trivial | refine ⟨rfl, ?_⟩)), (by repeat (first | exact SubO.nil | (apply SubO.cons; (focus repeat' constructor)) | exact .refl _ | apply SubO.drop))⟩
  have hkl : k = a.links.length := by simp only [decide_eq_false_iff_not, Int.ofNat_lt] at h; omega
  subst hkl
  rw [List.take_length, List.drop_length, List.append_nil]
  clear h hml hk
  repeat (first | (apply RL_st; rfl; (first | (apply Stp_boxNf; rfl; (focus repeat (first | exact Nf.nil | apply Nf.cons)); intro bk) | (apply Stp_alloc; intro bk))) | refine walk ?_)
  refine W_loopF [(1, .string more), (2, .bool sets), (3, .pointer (some ⟨b3, 0, none⟩)), (6, .pointer (some ⟨b6, 0, none⟩))] (.row (.slice L a.links.length kl) 39 2 a.links.length ((a.links.map (rnL more)).flatMap DLink.enc) :: .row (.slice Z Zs.length kz) 37 2 Zs.length ((Zs.map (fz more sets)).flatMap ZE.enc) :: .row (.slice R a.rules.length kr) 46 11 a.rules.length (Ru.flatMap DRule.enc) :: .blk b3 [.slice R a.rules.length kr, .slice Z Zs.length kz, .slice L a.links.length kl, .slice H a.shifts.length kh] 32 :: .blk b6 [.slice none 0 0, .slice none 0 0, .slice none 0 0, .slice none 0 0] 32 :: TF) (fun g : Nat => [(11, .int .i64 g)]) (fun g => [.row (.slice H a.shifts.length kh) 9 1 a.shifts.length (((a.shifts.take g).map (rnS more) ++ a.shifts.drop g).flatMap strEnc)]) (fun g => g ≤ a.shifts.length ∧ (sets = false → g = 0)) (fun g => a.shifts.length - g) 0 (by repeat (first | exact trivial | refine ⟨rfl, ?_⟩)) (by repeat (first | exact SubO.nil | (apply SubO.cons; (focus repeat' constructor)) | exact .refl _ | apply SubO.drop)) ⟨Nat.zero_le _, fun _ => rfl⟩ ?_
  rintro k ⟨hk, hk0⟩
  have hml := mix_len (rnS more) a.shifts k hk
  repeat (first | (apply RL_st; rfl; (first | (apply Stp_boxNf; rfl; (focus repeat (first | exact Nf.nil | apply Nf.cons)); intro bk) | (apply Stp_alloc; intro bk))) | refine walk ?_)
  refine RL_post (fun fr' O' => Sub [(124, .bool (decide ((k : Int) < (a.shifts.length : Int)) && sets)), (11, .int .i64 k), (1, .string more), (2, .bool sets), (3, .pointer (some ⟨b3, 0, none⟩)), (6, .pointer (some ⟨b6, 0, none⟩))] fr' ∧ SubO (.row (.slice H a.shifts.length kh) 9 1 a.shifts.length (((a.shifts.take k).map (rnS more) ++ a.shifts.drop k).flatMap strEnc) :: .row (.slice L a.links.length kl) 39 2 a.links.length ((a.links.map (rnL more)).flatMap DLink.enc) :: .row (.slice Z Zs.length kz) 37 2 Zs.length ((Zs.map (fz more sets)).flatMap ZE.enc) :: .row (.slice R a.rules.length kr) 46 11 a.rules.length (Ru.flatMap DRule.enc) :: .blk b3 [.slice R a.rules.length kr, .slice Z Zs.length kz, .slice L a.links.length kl, .slice H a.shifts.length kh] 32 :: .blk b6 [.slice none 0 0, .slice none 0 0, .slice none 0 0, .slice none 0 0] 32 :: TF) O') ?_ ?_
  · refine RL_split 122 rfl (fun h => ?_) (fun h => ?_)
    · repeat (first | (apply RL_st; rfl; (first | (apply Stp_boxNf; rfl; (focus repeat (first | exact Nf.nil | apply Nf.cons)); intro bk) | (apply Stp_alloc; intro bk))) | refine walk ?_)
      rw [show (decide ((k : Int) < (a.shifts.length : Int)) && sets) = sets by rw [h]; rfl]
      exact ⟨(by repeat (first | exact trivial | refine ⟨rfl, ?_⟩)), (by repeat (first | exact SubO.nil | (apply SubO.cons; (focus repeat' constructor)) | exact .refl _ | apply SubO.drop))⟩
    · repeat (first | (apply RL_st; rfl; (first | (apply Stp_boxNf; rfl; (focus repeat (first | exact Nf.nil | apply Nf.cons)); intro bk) | (apply Stp_alloc; intro bk))) | refine walk ?_)
      rw [show (decide ((k : Int) < (a.shifts.length : Int)) && sets) = false by rw [h]; rfl]
      exact ⟨(by repeat (first | exact trivial | refine ⟨rfl, ?_⟩)), (by repeat (first | exact SubO.nil | (apply SubO.cons; (focus repeat' constructor)) | exact .refl _ | apply SubO.drop))⟩
  rintro fr' O' ⟨hf, hO⟩
  apply thenQ_n
  refine W_sub hf hO ?_
  clear hf hO fr' O'
  refine W_cond rfl (fun h => ?_) (fun h => ?_)
  · rw [Bool.and_eq_true] at h
    obtain ⟨h1, h2⟩ := h
    have hk2 : k < a.shifts.length := by simpa using h1
    have hget : a.shifts[k]? = some a.shifts[k] := List.getElem?_eq_getElem hk2
    have hsz := hs.s _ (List.getElem_mem hk2)
    obtain ⟨hg1, hg2⟩ := set_step (rnS more) a.shifts k _ hget
    generalize a.shifts[k] = x at *
    have hx1 : (((a.shifts.take k).map (rnS more) ++ a.shifts.drop k).flatMap strEnc)[((k : Int)).toNat * 1]? = some (.string x) := flat_get strEnc.len ((a.shifts.take k).map (rnS more) ++ a.shifts.drop k) k x 0 _ hg1 rfl
    have hst := flat_lay strEnc.len 0 [.string (x ++ more)] (by simp only [List.length_cons, List.length_nil]; omega) x (rnS more x) rfl ((a.shifts.take k).map (rnS more) ++ a.shifts.drop k) k hg1
    rw [hg2, Nat.add_zero] at hst
    repeat (first | (apply RL_pu; rfl; (first | (apply Pu_indexAddrH; rfl; rfl; omega; omega; (intro w' _ hO; exact row_some (hO.of (A := .row (.slice H _ kh) _ _ _ _) (by (focus repeat' constructor))) (by omega))) | (apply Pu_loadR; rfl; (focus repeat' constructor); exact hx1) | (apply Pu_addS; rfl; rfl; omega))) | (apply RL_st0; (apply Stp_storeR; rfl; rfl; (focus repeat' constructor); rfl; rfl; rfl; (rw [flat_len strEnc.len, hml]; omega); decide; exact hst)) | (apply RL_st; rfl; (first | (apply Stp_storeR; rfl; rfl; (focus repeat' constructor); rfl; rfl; rfl; (rw [flat_len strEnc.len, hml]; omega); decide; exact hst) | (apply Stp_boxNf; rfl; (focus repeat (first | exact Nf.nil | apply Nf.cons)); intro bk) | (apply Stp_alloc; intro bk))) | refine walk1 ?_)
    exact ⟨k + 1, (by first | omega | (dsimp only; omega)), ⟨(by first | omega | (dsimp only; omega)), fun h => by rw [h2] at h; cases h⟩, (by repeat (first | exact trivial | refine ⟨rfl, ?_⟩)), (by repeat (first | exact SubO.nil | (apply SubO.cons; (focus repeat' constructor)) | exact .refl _ | apply SubO.drop))⟩
  have hend : ((a.shifts.take k).map (rnS more) ++ a.shifts.drop k) = onB sets (rnS more) a.shifts := onB_end (fun hb => by rw [hb, Bool.and_true] at h; have := of_decide_eq_false h; omega) hk0
  rw [hend]
  subst hTF
  repeat (first | (apply RL_st; rfl; (first | (apply Stp_boxNf; rfl; (focus repeat (first | exact Nf.nil | apply Nf.cons)); intro bk) | (apply Stp_alloc; intro bk))) | refine walk ?_)
  subst hRu
  rw [← onB_len sets (rnR more) a.rules, ← hzfl, ← (List.length_map (rnL more) : (a.links.map (rnL more)).length = a.links.length), ← onB_len sets (rnS more) a.shifts]
  exact ret_1 (.agg #[.slice R (onB sets (rnR more) a.rules).length kr, .slice Z (Zs.map (fz more sets)).length kz, .slice L (a.links.map (rnL more)).length kl, .slice H (onB sets (rnS more) a.shifts).length kh]) (rowR R kr (onB sets (rnR more) a.rules) :: rowZ Z kz (Zs.map (fz more sets)) :: rowL L kl (a.links.map (rnL more)) :: rowS H kh (onB sets (rnS more) a.shifts) :: (Zs.map (fz more sets)).map eraRow) (.cellB rfl (by (focus repeat' constructor)) rfl rfl) (by repeat (first | exact SubO.nil | (apply SubO.cons; (focus repeat' constructor)) | exact .refl _ | apply SubO.drop)) ⟨R, kr, Z, kz, L, kl, H, kh, Zs.map (fz more sets), by simp only [srcV, renD]; rw [← hzf, List.length_map (f := ZE.z)], hzf, rfl⟩
end Go.Proofs.YtfhjfpikngcknaaDoor
