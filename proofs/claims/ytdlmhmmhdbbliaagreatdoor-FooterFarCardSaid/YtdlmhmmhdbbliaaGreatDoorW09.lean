/- Parts of the proof. -/
import Derived.Test.YtdlmhmmhdbbliaaGreatDoorW08
import Derived.Test.YtdlmhmmhdbbliaaGreatDoorW05
import Derived.Test.YtdlmhmmhdbbliaaGreatDoorW04
import Derived.Test.YtdlmhmmhdbbliaaGreatDoorW06
set_option maxHeartbeats 4000000
set_option linter.unusedVariables false
set_option linter.unusedSimpArgs false
namespace Go.Proofs.YtdlmhmmhdbbliaaGreatDoor
open Go Go.RowKit Go.Wk
def fmtU : List ByteArray := [⟨#[76, 77, 84]⟩, ⟨#[71, 77, 84, 47, 66, 83, 84]⟩, ⟨#[67, 69, 37, 115, 84]⟩, ⟨#[37, 122]⟩, ⟨#[67, 69, 84, 47, 67, 69, 83, 84]⟩, ⟨#[69, 69, 37, 115, 84]⟩, ⟨#[69, 37, 115, 83, 84]⟩, ⟨#[87, 83, 84]⟩]
def ZuD (u : ZaT) (Y : Int) : Prop := (∃ D S B, u = ⟨true, Y, 12, ⟨1, 0, D⟩, ⟨S, B⟩⟩ /\ 5 <= D /\ D <= 24 /\ 0 <= S /\ S <= 86400 /\ 0 <= B /\ B <= 2) \/
 (∃ d S B, u = ⟨true, Y + 1, 1, d, ⟨S, B⟩⟩ /\ ((d.kind = 1 /\ d.week = 0 /\ 1 <= d.day /\ d.day <= 20) \/ (d.kind = 3 /\ (0 <= d.week /\ d.week <= 6) /\ d.day = 8)) /\ 0 <= S /\ S <= 86400 /\ 0 <= B /\ B <= 2)
theorem ZrC {y m : Int} {d : DDay} {S B least x : Int} (hy : 1850 <= y /\ y <= 2149) (h0 : onD y m d = (x, 0)) (h3 : 0 <= S) (h4 : S <= 86400) (h5 : 0 <= B) (h6 : B <= 2) (hl : -3600 <= least /\ least <= 0) :
  ZaR ⟨true, y, m, d, ⟨S, B⟩⟩ least = 0 /\ ZaE ⟨true, y, m, d, ⟨S, B⟩⟩ least = (86400 * x + S + (if B = 1 then least else 0), 0) := by
 have e1 : ZaR ⟨true, y, m, d, ⟨S, B⟩⟩ least = 0 := by
  have hc : ZaL ⟨S, B⟩ = true := by
   unfold ZaL
   simp
   omega
  unfold ZaR
  dsimp only
  rw [if_neg (by omega), if_neg (by decide), if_neg (by rw [hc]; simp; omega), h0, if_neg]
  rintro (h | h | h)
  ·exact h rfl
  ·split at h <;> omega
  ·split at h <;> omega
 refine ⟨e1, ?_⟩
 unfold ZaE
 rw [if_neg (by rw [e1]; decide), h0]
theorem ZyI {y : Int} {d : DDay} (hy : 1850 <= y /\ y <= 2149) (hd : (d.kind = 1 /\ d.week = 0 /\ 1 <= d.day /\ d.day <= 20) \/ (d.kind = 3 /\ (0 <= d.week /\ d.week <= 6) /\ d.day = 8)) : ∃ x, onD y 1 d = (x, 0) /\ mar1 (y - 1) + 306 <= x /\ x <= mar1 (y - 1) + 325 := by
 have hin : inY y = true := by
  unfold inY
  simp
  omega
 have hL := ZfE y 1 (by decide) (by decide)
 have hok : ZaH y 1 1 = true := by
  unfold ZaH
  rw [hin]
  simp
  omega
 have hn : Zam y 1 1 = mar1 (y - 1) + 306 := by
  unfold Zam
  rw [if_pos (by decide)]
  unfold ZbQ mar1
  rw [show ZaJ.getD ((1 : Int) + 12 - 3).toNat 0 = 306 by decide]
  omega
 have hdd : Zd6 d := by
  obtain ⟨k, wk, dd⟩ := d
  dsimp only at hd
  rcases hd with ⟨rfl, rfl, h1, h2⟩ | ⟨rfl, h1, rfl⟩
  ·exact .inr (.inr ⟨rfl, rfl, h1, by dsimp only; omega⟩)
  ·exact .inr (.inl ⟨rfl, h1.1, h1.2, by show (1 : Int) <= 8; decide, by show (8 : Int) <= 22; decide, by show (8 : Int).tmod 7 = 1; decide⟩)
 unfold onD
 rw [if_neg (by rw [hok]; decide), if_neg (by rw [hdd.chk]; decide), if_neg (by omega), hn]
 refine ⟨_, rfl, ?_⟩
 unfold Zec
 rcases hd with ⟨h1, _, h2, h3⟩ | ⟨h1, _, h2⟩
 ·rw [if_pos h1]
  omega
 ·rw [if_neg (by omega), if_neg (by omega), if_pos h1, h2]
  unfold ZeC
  omega
theorem ZuD.nom {u : ZaT} {Y least : Int} (h : ZuD u Y) (hY : 1850 <= Y /\ Y <= 2148) (hl : -3600 <= least /\ least <= 0) :
  u.is = true /\ ZaR u least = 0 /\ ∃ n, ZaE u least = (n, 0) /\ 86400 * (mar1 Y + 279) - 3600 <= n /\ n <= 86400 * (mar1 Y + 327) := by
 rcases h with ⟨D, S, B, rfl, h1, h2, h3, h4, h5, h6⟩ | ⟨d, S, B, rfl, hd, h3, h4, h5, h6⟩
 ·have hin : inY Y = true := by
   unfold inY
   simp
   omega
  have hL := ZfE Y 12 (by decide) (by decide)
  have hdd : Zd6 ⟨1, 0, D⟩ := .inr (.inr ⟨rfl, rfl, by show 1 <= D; omega, by show D <= 28; omega⟩)
  have e0 : onD Y 12 ⟨1, 0, D⟩ = (mar1 Y + 275 + D - 1, 0) := by
   have hok : ZaH Y 12 1 = true := by
    unfold ZaH
    rw [hin]
    simp
    omega
   unfold onD
   rw [if_neg (by rw [hok]; decide), if_neg (by rw [hdd.chk]; decide), if_neg (by show ¬ lenM Y 12 < D; omega), Zmv _ _ _ (by decide), show ZaJ.getD ((12 : Int) - 3).toNat 0 = 275 by decide]
   unfold Zec
   rw [if_pos rfl]
   dsimp only
   rw [show mar1 Y + 275 + 1 - 1 + D - 1 = mar1 Y + 275 + D - 1 by omega]
  obtain ⟨e1, e2⟩ := ZrC (B := B) (by omega) e0 h3 h4 h5 h6 hl
  refine ⟨rfl, e1, _, e2, ?_⟩
  split <;> omega
 ·obtain ⟨x, e0, e3, e4⟩ := ZyI (y := Y + 1) (by omega) hd
  rw [show Y + 1 - 1 = Y by omega] at e3 e4
  obtain ⟨e1, e2⟩ := ZrC (B := B) (by omega) e0 h3 h4 h5 h6 hl
  refine ⟨rfl, e1, _, e2, ?_⟩
  split <;> omega
def Zbi (rs : List Zaa) (e : DEra) (first : Bool) : Prop :=
 (e.kind = 0 /\ e.save = 0 /\ e.set = ByteArray.empty /\ -46800 <= e.off /\ e.off <= 46800 /\ e.format ∈ fmtU) \/
 (e.kind = 1 /\ (1800 <= e.save /\ e.save <= 7200) /\ e.set = ByteArray.empty /\ -46800 <= e.off /\ e.off <= 46800 /\ e.format ∈ fmtU) \/
 (e.kind = 2 /\ first = false /\ e.save = 0 /\ -43200 <= e.off /\ e.off <= 43200 /\ e.format ∈ fmtU /\ Zbh (ofB rs e.set) /\ (ofB rs e.set).length <= 5)
theorem ZhJ (x : Int) (h : -86400 < x /\ x < 86400) : ZbJ x ≠ [] := by
 unfold ZbJ
 rw [if_neg (by omega)]
 exact fun hh => by cases hh
theorem Zpd (off : Int) : ∀ l : List Int, (∀ x ∈ l, -86400 < off + x /\ off + x < 86400) -> ∃ r, Zfb off l = some r
 | [], _ => ⟨_, rfl⟩
 | x :: l, h => by
  obtain ⟨r, hr⟩ := Zpd off l fun y hy => h y (List.mem_cons_of_mem _ hy)
  have hx := h x List.mem_cons_self
  refine ⟨ZbJ (off + x) :: r, ?_⟩
  rw [Zfb, if_neg (by
   rintro (hh | hh)
   ·unfold Zc7 at hh; simp at hh; omega
   ·exact ZhJ _ hx hh), hr]
theorem Zil {f : List UInt8} : ∀ l : List (List UInt8), (∀ x ∈ l, (ZbI f 0 0 x).2 = 0) -> ZdS f l = 0
 | [], _ => rfl
 | x :: l, h => by
  rw [ZdS, if_pos (h x List.mem_cons_self)]
  exact Zil l fun y hy => h y (List.mem_cons_of_mem _ hy)
def ZqO : List (List UInt8) := [[76, 77, 84], [71, 77, 84, 47, 66, 83, 84], [67, 69, 84, 47, 67, 69, 83, 84], [87, 83, 84]]
def ZqL : List (List UInt8) := [[67, 69, 37, 115, 84], [69, 69, 37, 115, 84], [69, 37, 115, 83, 84]]
def ZjK : List (List UInt8) := [[], [83], [68], [68, 84]]
theorem ZbW : (∀ f ∈ ZqO, ZbH f = 1 \/ ZbH f = 2) /\ (∀ f ∈ ZqL, ZbH f = 3 /\ ∀ x ∈ ZjK, (ZbI f 0 0 x).2 = 0) /\ ZbH [37, 122] = 4 := by decide +kernel
theorem Zf2 {f : ByteArray} (h : f ∈ fmtU) : f.data.toList ∈ ZqO \/ f.data.toList ∈ ZqL \/ f.data.toList = [37, 122] := by
 have h1 : ∀ f ∈ fmtU, f.data.toList ∈ ZqO \/ f.data.toList ∈ ZqL \/ f.data.toList = [37, 122] := by decide
 exact h1 f h
theorem ZkC {x : ByteArray} (h : x ∈ [ByteArray.empty, (⟨#[83]⟩ : ByteArray), ⟨#[68]⟩, ⟨#[68, 84]⟩]) : x.data.toList ∈ ZjK := by
 have : ∀ x ∈ [ByteArray.empty, (⟨#[83]⟩ : ByteArray), ⟨#[68]⟩, ⟨#[68, 84]⟩], x.data.toList ∈ ZjK := by decide
 exact this x h
theorem ZsN {e : DEra} {l : List Zaa} (hf : e.format ∈ fmtU) (hk : e.kind = 0 \/ e.kind = 1 \/ e.kind = 2) (h0 : -86400 < e.off /\ e.off < 86400) (h1 : e.kind = 1 -> -86400 < e.off + e.save /\ e.off + e.save < 86400)
  (h2 : e.kind = 2 -> (∀ r ∈ l, r.letter.data.toList ∈ ZjK) /\ (ZcT l).2 = true /\ -86400 < e.off + (ZcT l).1 /\ e.off + (ZcT l).1 < 86400) : Zig e l = 0 := by
 unfold Zig
 dsimp only
 rcases Zf2 hf with h | h | h
 ·rcases ZbW.1 _ h with h | h <;> rw [h] <;> simp
 ·obtain ⟨h3, h4⟩ := ZbW.2.1 _ h
  rw [h3, if_neg (by decide), if_pos rfl]
  refine Zil _ fun x hx => h4 x ?_
  split at hx
  ·rename_i hk2
   obtain ⟨r, hr, rfl⟩ := List.mem_map.1 hx
   exact (h2 hk2).1 r hr
  ·rw [List.mem_singleton] at hx
   subst hx
   decide
 ·have he : (ZfG e l).2 = 0 := by
   have hj : ∀ s : List Int, (∀ x ∈ s, -86400 < e.off + x /\ e.off + x < 86400) -> (match Zfb e.off s with | none => (([], 3) : List UInt8 × Int) | some r => (ZcN r, 0)).2 = 0 := fun s hs => by
    obtain ⟨r, hr⟩ := Zpd e.off s hs
    rw [hr]
   unfold ZfG
   dsimp only
   rcases hk with hk | hk | hk
   ·rw [if_pos hk]
    exact hj [0] fun x hx => by rw [List.mem_singleton] at hx; subst hx; omega
   ·rw [if_neg (by omega), if_pos hk]
    exact hj [e.save] fun x hx => by rw [List.mem_singleton] at hx; subst hx; exact h1 hk
   ·obtain ⟨_, h3, h4⟩ := h2 hk
    rw [if_neg (by omega), if_neg (by omega), if_pos hk, if_pos h3]
    exact hj [0, (ZcT l).1] fun x hx => by
     simp only [List.mem_cons, List.not_mem_nil, or_false] at hx
     rcases hx with rfl | rfl
     ·omega
     ·exact h4
  rw [h, ZbW.2.2, if_neg (by decide), if_neg (by decide), if_pos (.inl rfl), if_neg]
  rw [he]
  rintro (hh | ⟨hh, _⟩)
  ·exact hh rfl
  ·cases hh
theorem Zbi.fmt {rs : List Zaa} {e : DEra} {first : Bool} (h : Zbi rs e first) : e.format ∈ fmtU := by
 rcases h with ⟨_, _, _, _, _, h⟩ | ⟨_, _, _, _, _, h⟩ | ⟨_, _, _, _, _, h, _⟩
 ·exact h
 ·exact h
 ·exact h
theorem Zbi.states {rs : List Zaa} {e : DEra} {first : Bool} (h : Zbi rs e first) : (ZaN rs e).length <= 5 /\ (∀ x ∈ ZaN rs e, -54000 <= e.off + x.1 /\ e.off + x.1 <= 54000) /\ -54000 <= e.off /\ e.off <= 54000 /\ (Za5 rs e = [] \/ Zbh (Za5 rs e)) := by
 unfold ZaN Za5
 rcases h with ⟨hk, hs, _, h1, h2, _⟩ | ⟨hk, hs, _, h1, h2, _⟩ | ⟨hk, _, _, h1, h2, _, h3, h4⟩
 ·rw [if_neg (by omega), if_neg (by omega), if_neg (by omega)]
  refine ⟨by simp, fun x hx => ?_, by omega, by omega, .inl rfl⟩
  rw [List.mem_singleton] at hx
  subst hx
  dsimp only
  omega
 ·rw [if_pos hk, if_neg (by omega)]
  refine ⟨by simp, fun x hx => ?_, by omega, by omega, .inl rfl⟩
  rw [List.mem_singleton] at hx
  subst hx
  dsimp only
  omega
 ·rw [if_neg (by omega), if_pos hk, if_pos hk]
  refine ⟨by rw [List.length_map]; exact h4, fun x hx => ?_, by omega, by omega, .inr h3⟩
  obtain ⟨r, hr, rfl⟩ := List.mem_map.1 hx
  have := (h3.rule r hr).save
  dsimp only
  omega
theorem ZqB : Zah [] = 0 := rfl
theorem Zbi.least {rs : List Zaa} {e : DEra} {first : Bool} (h : Zbi rs e first) : -3600 <= Zah (Za5 rs e) /\ Zah (Za5 rs e) <= 0 := by
 obtain ⟨_, _, _, _, hs⟩ := h.states
 rcases hs with hs | hs
 ·rw [hs, ZqB]; decide
 ·exact hs.least
theorem Zbi.chk {rs : List Zaa} {e : DEra} {first : Bool} (h : Zbi rs e first) (hu : e.til.is = true \/ e.til = Zxr) : Zez rs e first = 0 := by
 obtain ⟨_, s2, s3, s4, _⟩ := h.states
 have hun : Zgx e = false := by
  have ht : (!e.til.is && !decide ({ e.til with is := false } = dU0)) = false := by
   rcases hu with hu | hu
   ·rw [hu]; rfl
   ·rw [hu]; decide
  unfold Zgx
  rw [ht]
  rcases h with ⟨hk, hs, he, _⟩ | ⟨hk, hs, he, _⟩ | ⟨hk, _, hs, _⟩
  ·rw [hk, hs, he]; decide
  ·rw [hk, he]; simp
  ·rw [hk, hs]; simp
 have hf : Zig e (Za5 rs e) = 0 := by
  refine ZsN h.fmt ?_ (by omega) ?_ ?_
  ·rcases h with ⟨hk, _⟩ | ⟨hk, _⟩ | ⟨hk, _⟩
   ·exact .inl hk
   ·exact .inr (.inl hk)
   ·exact .inr (.inr hk)
  ·intro hk
   have := s2 (e.save, ByteArray.empty) (by unfold ZaN; rw [if_pos hk]; exact List.mem_singleton.2 rfl)
   dsimp only at this
   omega
  ·intro hk
   rcases h with ⟨hk2, _⟩ | ⟨hk2, _⟩ | ⟨_, _, _, h1, h2, _, h3, h4⟩
   ·omega
   ·omega
   rw [Za5, if_pos hk]
   obtain ⟨s, _, q1, q2, q3, _⟩ := h3.other
   rw [q3]
   exact ⟨fun r hr => ZkC (h3.rule r hr).letter, rfl, by dsimp only; omega, by dsimp only; omega⟩
 have hkk : (0 <= e.kind /\ e.kind <= 2) /\ (¬ (first = true /\ e.kind = 2)) /\ (¬ (e.kind = 2 /\ Za5 rs e = [])) /\ ¬ (e.kind = 1 /\ (e.save < 1 \/ 10800 < e.save)) := by
  rcases h with ⟨hk, _⟩ | ⟨hk, hs, _⟩ | ⟨hk, hf, _, _, _, _, h3, _⟩
  ·exact ⟨by omega, by omega, by omega, by omega⟩
  ·exact ⟨by omega, by omega, by omega, by omega⟩
  ·refine ⟨by omega, by rw [hf]; simp, ?_, by omega⟩
   rintro ⟨_, hn⟩
   rw [Za5, if_pos hk] at hn
   obtain ⟨_, _, _, ⟨r, hr, _⟩, _⟩ := h3.saves
   rw [hn] at hr
   cases hr
 unfold Zez
 rw [if_neg (by omega), if_neg hkk.2.1, if_neg hkk.2.2.1, if_neg hkk.2.2.2, if_neg, if_neg (by rw [hun]; decide), hf]
 rintro (hh | hh)
 ·unfold Zb7 at hh; simp at hh; omega
 ·obtain ⟨x, hx, hh⟩ := List.any_eq_true.1 hh
  have := s2 x hx
  unfold Zb7 at hh
  simp at hh
  omega
structure Zbo (rs : List Zaa) (l : List DEra) (Y : Nat -> Int) : Prop where
 len : 1 <= l.length /\ l.length <= 4
 era : ∀ k e, l[k]? = some e -> Zbi rs e (decide (k = 0))
 yr : ∀ k, k + 1 < l.length -> 1850 <= Y k /\ Y k <= 2148
 inc : ∀ k, k + 2 < l.length -> Y k < Y (k + 1)
 til : ∀ k e, l[k]? = some e -> if k + 1 < l.length then ZuD e.til (Y k) else e.til = Zxr
theorem Zdi {α : Type} {l : List α} {k : Nat} {d : α} (h : k < l.length) : ∃ e, l[k]? = some e /\ l.getD k d = e := ⟨l[k], List.getElem?_eq_getElem h, by rw [List.getD_eq_getElem?_getD, List.getElem?_eq_getElem h]; rfl⟩
theorem Zbh.far_til {l : List Zaa} (h : Zbh l) {n Y : Int} (h1 : 86400 * (mar1 Y + 279) - 3600 <= n) (h2 : n <= 86400 * (mar1 Y + 327)) : farD l n = true := by
 refine h.farD_of n fun j r y e hj he => ?_
 obtain ⟨_, _, _, _, b1, b2⟩ := (h.rule r (List.mem_of_getElem? hj)).ev h.least he
 have hb := Zdu r.month
 rcases Int.lt_or_le Y y with hy | hy
 ·have := Zdh hy
  omega
 ·have := ZfB hy
  omega
theorem Zbo.endOk {rs : List Zaa} {l : List DEra} {Y : Nat -> Int} (h : Zbo rs l Y) {k : Nat} (hk : k < l.length) : Zix rs l k = 0 := by
 obtain ⟨e, he, hd⟩ := Zdi (d := dE0) hk
 have hE := h.era k e he
 have hT := h.til k e he
 unfold Zix
 dsimp only
 rw [hd]
 by_cases hl : k + 1 < l.length
 ·rw [if_pos hl] at hT
  obtain ⟨t1, t2, n, t3, t4, t5⟩ := hT.nom (h.yr k hl) hE.least
  rw [if_neg (by rw [t1, decide_eq_true hl]; simp), if_neg (by rw [t1]; decide), if_neg (by rw [t2]; decide), t3, if_neg, if_neg]
  ·rintro ⟨hk2, hf⟩
   obtain ⟨_, _, _, _, hs⟩ := hE.states
   rcases hs with hs | hs
   ·rcases hE with ⟨hk3, _⟩ | ⟨hk3, _⟩ | ⟨_, _, _, _, _, _, h3, _⟩
    ·omega
    ·omega
    ·rw [Za5, if_pos hk2] at hs
     obtain ⟨_, _, _, ⟨r, hr, _⟩, _⟩ := h3.saves
     rw [hs] at hr
     cases hr
   ·rw [hs.far_til t4 t5] at hf
    cases hf
  ·rintro ⟨hk0, hh⟩
   obtain ⟨b, hb, hbd⟩ := Zdi (l := l) (k := k - 1) (d := dE0) (by omega)
   rw [hbd] at hh
   have hT2 := h.til (k - 1) b hb
   rw [if_pos (by omega)] at hT2
   obtain ⟨_, _, m, m3, m4, m5⟩ := hT2.nom (h.yr (k - 1) (by omega)) (h.era (k - 1) b hb).least
   rw [m3] at hh
   have hy := h.inc (k - 1) (by omega)
   rw [show k - 1 + 1 = k by omega] at hy
   have := Zdh hy
   rcases hh with hh | hh
   ·exact hh rfl
   ·dsimp only at hh
    omega
 ·rw [if_neg hl] at hT
  have ht : e.til.is = false := by rw [hT]; rfl
  rw [if_neg (by rw [ht, decide_eq_false hl]; simp), if_pos ht]
theorem Zbo.eraOk {rs : List Zaa} {l : List DEra} {Y : Nat -> Int} (h : Zbo rs l Y) {k : Nat} (hk : k < l.length) : Zez rs (l.getD k dE0) (decide (k = 0)) = 0 := by
 obtain ⟨e, he, hd⟩ := Zdi (d := dE0) hk
 rw [hd]
 refine (h.era k e he).chk ?_
 have hT := h.til k e he
 split at hT
 ·rcases hT with ⟨_, _, _, hh, _⟩ | ⟨_, _, _, hh, _⟩ <;> exact .inl (by rw [hh])
 ·exact .inr hT
theorem Zbo.go {rs : List Zaa} {l : List DEra} {Y : Nat -> Int} (h : Zbo rs l Y) (i : Nat) : ∀ f k, k + f <= l.length -> Zdy rs l i f k = none
 | 0, _, _ => rfl
 | f + 1, k, hk => by
  rw [Zdy, if_neg (by rw [h.eraOk (by omega)]; decide), if_neg (by rw [h.endOk (by omega)]; decide)]
  exact h.go i f (k + 1) (by omega)
theorem Zs0 (n : Int) : (dig2 n).length = 2 := rfl
theorem Zp6 (x : Int) : (ZbJ x).length <= 7 := by
 unfold ZbJ
 split
 ·exact Nat.zero_le _
 ·simp only [List.length_cons, List.length_append, Zs0]
  have h : ∀ (c : Prop) [Decidable c] (n : Int), (if c then ([] : List UInt8) else dig2 n).length <= 2 := fun c _ n => by
   split
   ·exact Nat.zero_le _
   ·exact Nat.le_refl _
  have h1 := h
  generalize ha : (if (if x < 0 then -x else x) % 3600 = 0 then ([] : List UInt8) else dig2 ((if x < 0 then -x else x) / 60 % 60)) = a
  generalize hb : (if (if x < 0 then -x else x) % 60 = 0 then ([] : List UInt8) else dig2 ((if x < 0 then -x else x) % 60)) = b
  have h2 : a.length <= 2 := by rw [<- ha]; exact h _ _
  have h3 : b.length <= 2 := by rw [<- hb]; exact h _ _
  omega
theorem ZnP : ∀ f ∈ ZqO, (match Zcn f with | none => decide (ZbH f = 1) && decide (f.length <= 7) | some (a, b) => decide (a.length <= 7) && decide (b.length <= 7)) = true := by decide +kernel
theorem Zca : (∀ f ∈ ZqL, Zcn f = none) /\ Zcn [37, 122] = none := by decide +kernel
theorem ZvK {f : ByteArray} (h : f ∈ fmtU) (off save : Int) (x : List UInt8) : (ZbI f.data.toList off save x).1.length <= 7 := by
 rcases Zf2 h with h | h | h
 ·have hp := ZnP _ h
  unfold ZbI
  cases hq : Zcn f.data.toList with
  | none =>
   rw [hq] at hp
   simp at hp
   dsimp only
   rw [hp.1, if_neg (by decide), if_neg (by decide), if_pos (.inl rfl)]
   rw [Array.length_toList]
   exact hp.2
  | some ab =>
   obtain ⟨a, b⟩ := ab
   rw [hq] at hp
   simp at hp
   dsimp only
   split
   ·exact hp.1
   ·exact hp.2
 ·obtain ⟨hk, _⟩ := ZbW.2.1 _ h
  unfold ZbI
  rw [Zca.1 _ h, hk]
  dsimp only
  rw [if_pos rfl]
  cases ZbX f.data.toList with
  | none => exact Nat.zero_le _
  | some ab =>
   obtain ⟨a, b⟩ := ab
   dsimp only
   split
   ·rename_i hh
    unfold ZcH ZcU at hh
    simp only [Bool.and_eq_true, decide_eq_true_eq] at hh
    dsimp only
    omega
   ·exact Nat.zero_le _
 ·unfold ZbI
  rw [h, Zca.2, ZbW.2.2]
  dsimp only
  rw [if_neg (by decide), if_pos rfl]
  split
  ·exact Zp6 _
  ·exact Nat.zero_le _
theorem ZhQ (x : List UInt8) : ∀ l, ZcO (l ++ [x]) = ZcO l + x.length + 1
 | [] => by simp [ZcO]
 | y :: l => by rw [List.cons_append, ZcO, ZhQ x l, ZcO]; omega
theorem Ztq (x : Int × List UInt8) (l : List (Int × List UInt8)) : (addP x l).length <= l.length + 1 := by
 unfold addP
 split
 ·omega
 ·rw [List.length_append]; exact Nat.le_refl _
theorem Ztr (x : List UInt8) (l : List (List UInt8)) : ZcO (addA x l) <= ZcO l + x.length + 1 := by
 unfold addA
 split
 ·omega
 ·rw [ZhQ]; exact Nat.le_refl _
theorem ZoO {e : DEra} (he : e.format ∈ fmtU) : ∀ (l : List (Int × ByteArray)) (acc : List (Int × List UInt8) × List (List UInt8)), (stGo e l acc).1.length <= acc.1.length + l.length /\ ZcO (stGo e l acc).2 <= ZcO acc.2 + 8 * l.length
 | [], acc => by simp [stGo]
 | x :: l, acc => by
  have h1 := Ztq (e.off + x.1, (ZbI e.format.data.toList e.off x.1 x.2.data.toList).1) acc.1
  have h2 := Ztr (ZbI e.format.data.toList e.off x.1 x.2.data.toList).1 acc.2
  have h3 := ZvK he e.off x.1 x.2.data.toList
  have h4 := ZoO he l (addP (e.off + x.1, (ZbI e.format.data.toList e.off x.1 x.2.data.toList).1) acc.1, addA (ZbI e.format.data.toList e.off x.1 x.2.data.toList).1 acc.2)
  rw [stGo]
  dsimp only at h4 ⊢
  rw [List.length_cons]
  omega
theorem Zpj (rs : List Zaa) : ∀ (l : List DEra) (acc : List (Int × List UInt8) × List (List UInt8)), (∀ e ∈ l, ∃ b, Zbi rs e b) -> (erGo rs l acc).1.length <= acc.1.length + 5 * l.length /\ ZcO (erGo rs l acc).2 <= ZcO acc.2 + 40 * l.length
 | [], acc, _ => by simp [erGo]
 | e :: l, acc, h => by
  obtain ⟨b, hb⟩ := h e List.mem_cons_self
  have h1 := ZoO hb.fmt (ZaN rs e) acc
  have h2 := Zpj rs l (stGo e (ZaN rs e) acc) fun x hx => h x (List.mem_cons_of_mem _ hx)
  have h3 := hb.states.1
  rw [erGo, List.length_cons]
  omega
theorem Zbo.few {rs : List Zaa} {z : ZaY} {Y : Nat -> Int} (h : Zbo rs z.eras Y) : Zir rs z = true := by
 have h1 := Zpj rs z.eras ([], []) fun e he => by
  obtain ⟨k, hk, rfl⟩ := List.mem_iff_getElem.1 he
  exact ⟨_, h.era k _ (List.getElem?_eq_getElem hk)⟩
 have h2 := h.len
 unfold Zir
 have e0 : ZcO [] = 0 := rfl
 rw [e0] at h1
 simp only [List.length_nil] at h1
 rw [decide_eq_true (by omega), decide_eq_true (by omega)]
 rfl
theorem Zg1 {rs : List Zaa} : ∀ (l : List ZaY) (i : Nat), (∀ z ∈ l, ∃ Y, Zbo rs z.eras Y) -> ZbT rs l i = none
 | [], _, _ => rfl
 | z :: l, i, h => by
  obtain ⟨Y, hz⟩ := h z List.mem_cons_self
  have hn : z.eras ≠ [] := fun hh => by
   have := hz.len
   rw [hh] at this
   simp at this
  rw [ZbT, if_neg hn, hz.go i z.eras.length 0 (by omega)]
  dsimp only
  rw [if_neg (by rw [hz.few]; decide)]
  exact Zg1 l (i + 1) fun x hx => h x (List.mem_cons_of_mem _ hx)
def ZkY (z : ZaY) : ZaY := ⟨z.name, []⟩
def Zhq (s : Zai) : Zai := ⟨[], s.zones.map ZkY, s.links, []⟩
theorem ZcY (x : ByteArray) : ∀ (l : List ZaY) (k : Nat), Zbn x (l.map ZkY) k = Zbn x l k
 | [], _ => rfl
 | z :: l, k => by rw [List.map_cons, Zbn, Zbn, ZcY x l (k + 1)]; rfl
theorem Zfe (s : Zai) : ∀ (l : List ZaY) (i : Nat), ZaO (Zhq s) (l.map ZkY) i = ZaO s l i
 | [], _ => rfl
 | z :: l, i => by
  rw [List.map_cons, ZaO, ZaO, Zfe s l (i + 1), show (Zhq s).zones = s.zones.map ZkY from rfl, ZcY]
  rfl
theorem Zfj (s : Zai) : ∀ (l : List Zb5) (i : Nat), Zbe (Zhq s) l i = Zbe s l i
 | [], _ => rfl
 | z :: l, i => by
  rw [Zbe, Zbe, Zfj s l (i + 1), show (Zhq s).zones = s.zones.map ZkY from rfl, ZcY, ZcY]
  rfl
theorem Zhf (s : Zai) : ∀ (f : Nat) (seen : List ByteArray) (x : ByteArray), Za7 (Zhq s) f seen x = Za7 s f seen x
 | 0, _, _ => rfl
 | f + 1, seen, x => by
  rw [Za7, Za7, show (Zhq s).zones = s.zones.map ZkY from rfl, ZcY, show (Zhq s).links = s.links from rfl]
  simp only [Zhf s f]
theorem Zfh (s : Zai) : ∀ (l : List Zb5) (i : Nat), Zbd (Zhq s) l i = Zbd s l i
 | [], _ => rfl
 | z :: l, i => by
  rw [Zbd, Zbd, Zfh s l (i + 1), Zhf]
  rfl
theorem ZnH (s : Zai) : Zcp s = Zcp (Zhq s) := by
 unfold Zcp
 rw [show (Zhq s).zones = s.zones.map ZkY from rfl, show (Zhq s).links = s.links from rfl, Zfe, Zfj, Zfh]
theorem Zxn (a b : List Zaa) (x : ByteArray) : ofB (a ++ b) x = ofB a x ++ ofB b x := List.filter_append _ _
theorem Zxo {l : List Zaa} {x : ByteArray} (h : ∀ r ∈ l, r.name = x) : ofB l x = l := List.filter_eq_self.2 fun r hr => decide_eq_true (h r hr)
theorem Zyw {l : List Zaa} {x y : ByteArray} (h : ∀ r ∈ l, r.name = y) (hxy : y ≠ x) : ofB l x = [] := List.filter_eq_nil_iff.2 fun r hr => by
 rw [h r hr]
 simp [hxy]
theorem ZfA : ∀ (l : List Zaa) (acc : List ByteArray), ∀ x ∈ ZbU l acc, x ∈ acc \/ ∃ r ∈ l, r.name = x
 | [], acc, x, h => .inl h
 | a :: l, acc, x, h => by
  rw [ZbU] at h
  split at h
  ·rcases ZfA l acc x h with h | ⟨r, h1, h2⟩
   ·exact .inl h
   ·exact .inr ⟨r, List.mem_cons_of_mem _ h1, h2⟩
  ·rcases ZfA l (acc ++ [a.name]) x h with h | ⟨r, h1, h2⟩
   ·rw [List.mem_append, List.mem_singleton] at h
    rcases h with h | rfl
    ·exact .inl h
    ·exact .inr ⟨a, List.mem_cons_self, rfl⟩
   ·exact .inr ⟨r, List.mem_cons_of_mem _ h1, h2⟩
theorem Zg4 {rs : List Zaa} : ∀ l : List ByteArray, (∀ x ∈ l, ZcE rs x = none) -> Zdn rs l = none
 | [], _ => rfl
 | x :: l, h => by
  rw [Zdn, h x List.mem_cons_self]
  exact Zg4 l fun y hy => h y (List.mem_cons_of_mem _ hy)
attribute [local irreducible] W RL Does Zau Zaj retQ Calls Pu Stp RD Qy Ay
theorem ZnZ (A : Option Addr) (c : Nat) (x : List Zaa) (w : World) (hA : RdSl w A c Zaa.enc 11 x) (hn : x.length <= 1000000) :
  Does Tryz.prog 211 [.slice A x.length c] w (Zrh 82 11 Zaa.enc x) := by
 refine Zab Tryz.func211 rfl rfl rfl rfl ?_
 repeat (first | (refine js ?_; (refine bx ?_; intro bk)) | refine walk ?_)
 refine Zaf rfl (fun h1 => ?_) (fun h1 => ?_)
 ·obtain rfl := hA.none h1
  refine Zfc 82 11 ?_
  repeat (first | (refine js ?_; (refine bx ?_; intro bk)) | refine walk ?_)
  exact ret_1 _ [.row (.slice none 0 0) 82 11 0 []] (.tmp rfl) SOA ⟨none, 0, rfl, rfl⟩
 repeat (first | (refine js ?_; (first | (apply Zof; rfl; rfl; (intro A' c'; (focus repeat' constructor)); (intro w' hw _; exact (hA.up hw).rd.raw Zaa.len (by decide)); exact Zba Zaa.len x; exact Ze0 oneR x; (simp only [maxLen]; omega); omega; intro A' c' hc1 hc2 hc3) | (refine bx ?_; intro bk))) | refine walk ?_)
 exact ret_1 _ _ (.tmp rfl) (.refl _) ⟨A', c', rfl, rfl⟩
theorem Zer (k : ByteArray) (v : Value) (x : ByteArray) : ∀ m : List (ByteArray × Value), mget (mset m k v) x = if x = k then some v else mget m x
 | [] => by simp [mset, mget]
 | (y, u) :: r => by
  simp only [mset]
  split
  ·rename_i h; subst h; simp only [mget]; split <;> simp_all
  ·rename_i h
   simp only [mget, Zer k v x r]
   split
   ·rename_i h2; subst h2; rw [if_neg (fun e => h e.symm)]
   ·rfl
def MpB (m : List (ByteArray × Value)) (l : List ByteArray) : Prop := ∀ x, (mget m x).getD (.bool false) = .bool (memB x l)
theorem MpB.set {m : List (ByteArray × Value)} {l : List ByteArray} (h : MpB m l) (y : ByteArray) : MpB (mset m y (.bool true)) (l ++ [y]) := fun x => by
 rw [Zer, ZlS]
 by_cases e : x = y
 ·subst e; simp
 ·rw [if_neg e, h x]; simp [show ¬ y = x from fun h => e h.symm]
theorem MpB.nil : MpB [] [] := fun _ => rfl
structure MG (α : Type) where
 k : Nat
 A : Option Addr
 c : Nat
 m : Nat
 xs : List Value
 acc : List α
 mp : List (ByteArray × Value)
theorem Zqq (Ar Az Al As : Option Addr) (cr cz cl cs : Nat) (a : Zai) (w : World) (hA : Zat w Ar Az Al As cr cz cl cs a) (hn : a.rules.length <= 1000000) :
  Does Tryz.prog 132 [srcV Ar Az Al As cr cz cl cs a] w (Zrh 9 1 ZaW (ZbU a.rules [])) := by
 generalize hres : ZbU a.rules [] = res
 refine Zab Tryz.func132 rfl rfl rfl rfl ?_
 repeat (first | (refine js ?_; (refine bx ?_; intro bk)) | refine walk ?_)
 refine Zfc 9 1 ?_
 refine Zao [(3, _), (9, _), (10, _)] [] (fun g : MG ByteArray => [(4, .slice g.A g.m g.c), (11, .int .i64 g.k)]) (fun g => [.row (.slice g.A g.m g.c) 9 1 g.m g.xs, .mp _ g.mp]) (fun g => g.k <= a.rules.length /\ g.m = g.acc.length /\ g.xs = g.acc.flatMap ZaW /\ g.m <= g.k /\ MpB g.mp g.acc /\ ZbU (a.rules.drop g.k) g.acc = res) (fun g => a.rules.length - g.k) ⟨0, none, 0, 0, [], [], []⟩ ⟨rfl, rfl, rfl, rfl, rfl, trivial⟩ SOA ⟨by simp, rfl, rfl, Nat.le_refl _, .nil, by simpa using hres⟩ ?_
 rintro ⟨k, A, c, m, xs, acc, mp⟩ ⟨hk, hm, hx, hmk, hp, hi⟩
 dsimp only at hk hm hx hmk hp hi ⊢
 repeat (first | (refine js ?_; (refine bx ?_; intro bk)) | refine walk ?_)
 refine Zaf rfl (fun hc => ?_) (fun hc => ?_)
 ·simp only [decide_eq_true_eq, Int.ofNat_lt] at hc
  obtain ⟨hna, hca⟩ := hA.r.rd k _ (List.getElem?_eq_getElem hc)
  have hnb := hna
  have hcb := hca
  rw [Zan hc, ZbU] at hi
  generalize a.rules[k] = r at *
  repeat (first | (apply RL_pu; rfl; (first | exact PuI | (apply ZgX; rfl; rfl; (focus repeat' constructor); exact hp _))) | (refine js ?_; (refine bx ?_; intro bk)) | refine walk1 ?_)
  refine Zaf rfl (fun h3 => ?_) (fun h3 => ?_)
  ·simp only [Bool.not_eq_true'] at h3
   rw [h3] at hi
   repeat (first | (apply RL_pu; rfl; exact PuI) | (refine js ?_; (first | (apply ZaA; rfl; rfl; (intro A' c'; (focus repeat' constructor)); (intro w' _ hO; exact ZbG (hO.of (by repeat' constructor))); rfl; rfl; (simp only [maxLen]; omega); omega; intro A' c' hc1 hc2 hc3) | (refine bx ?_; intro bk))) | refine walk1 ?_)
   exact ⟨⟨k + 1, A', c', m + 1, xs ++ ZaW r.name, acc ++ [r.name], mset mp r.name (.bool true)⟩, OA, ⟨OA, by simp [hm], by rw [hx]; exact Zf3 acc r.name, OA, hp.set _, by rw [<- hi]; simp⟩, SFA, SOA⟩
  simp only [Bool.not_eq_false'] at h3
  rw [h3] at hi
  repeat (first | (refine js ?_; (refine bx ?_; intro bk)) | refine walk ?_)
  exact ⟨⟨k + 1, A, c, m, xs, acc, mp⟩, OA, ⟨OA, hm, hx, OA, hp, by rw [<- hi]; simp⟩, SFA, SOA⟩
 simp only [decide_eq_false_iff_not, Int.ofNat_lt] at hc
 rw [List.drop_eq_nil_of_le (by omega), ZbU] at hi
 subst hi
 repeat (first | (refine js ?_; (refine bx ?_; intro bk)) | refine walk ?_)
 exact ret_1 _ [.row (.slice A acc.length c) 9 1 acc.length (acc.flatMap ZaW)] (.tmp rfl) (by subst hm hx; exact SOA) ⟨A, c, by rw [hm], rfl⟩
structure ZpC where
 name : ByteArray
 rs : List Zaa
 A : Option Addr
 c : Nat
 m : Nat
 xs : List Value
def ZpC.v (g : ZpC) : Value := .slice g.A g.m g.c
def ZpC.row (g : ZpC) : It := .row (.slice g.A g.m g.c) 82 11 g.m g.xs
structure ZE where
 z : ZaY
 A : Option Addr
 c : Nat
def ZE.enc (q : ZE) : List Value := [.string q.z.name, .slice q.A q.z.eras.length q.c]
theorem ZE.len (x : ZE) : x.enc.length = 2 := rfl
def Zja (Zs : List ZE) (w : World) : Prop := ∀ q ∈ Zs, RdSl w q.A q.c DEra.enc 13 q.z.eras
theorem ZoF {w : World} {A : Option Addr} {c : Nat} {Zs : List ZE} (h : RdSl w A c ZE.enc 2 Zs) (he : Zja Zs w) : RdZ w A (Zs.map ZE.z) := fun k z hz => by
 rw [List.getElem?_map] at hz
 cases hq : Zs[k]? with
 | none => rw [hq] at hz; cases hz
 | some q =>
  rw [hq] at hz
  injection hz with hz
  subst hz
  exact ⟨(h.rd k q hq).1, q.enc, ⟨q.A, q.c, he q (List.mem_of_getElem? hq), rfl⟩, (h.rd k q hq).2⟩
abbrev rowR (A : Option Addr) (c : Nat) (l : List Zaa) : It := .row (.slice A l.length c) 82 11 l.length (l.flatMap Zaa.enc)
abbrev rowZ (A : Option Addr) (c : Nat) (l : List ZE) : It := .row (.slice A l.length c) 50 2 l.length (l.flatMap ZE.enc)
abbrev rowL (A : Option Addr) (c : Nat) (l : List Zb5) : It := .row (.slice A l.length c) 78 2 l.length (l.flatMap Zb5.enc)
abbrev rowS (A : Option Addr) (c : Nat) (l : List ByteArray) : It := .row (.slice A l.length c) 9 1 l.length (l.flatMap ZaW)
def Zzg (s : Zai) (v : Value) (O : List It) : Prop :=
 ∃ Ar cr Az cz Al cl As cs Zs S, v = srcV Ar Az Al As cr cz cl cs s /\ Zs.map ZE.z = s.zones /\ O = [rowR Ar cr s.rules, rowZ Az cz Zs, rowL Al cl s.links, rowS As cs s.shifts, .fact S (Zja Zs)]
theorem ZrG {w : World} {Ar Az Al As : Option Addr} {cr cz cl cs : Nat} {Zs : List ZE} {S : Nat -> Prop} {s : Zai} (hz : Zs.map ZE.z = s.zones) (h1 : (rowR Ar cr s.rules).sat w) (h2 : (rowZ Az cz Zs).sat w) (h3 : (rowL Al cl s.links).sat w) (h4 : (rowS As cs s.shifts).sat w) (h5 : (It.fact S (Zja Zs)).sat w) :
  Zat w Ar Az Al As cr cz cl cs s := by
 have h := Zbj ZE.len h2
 have hl : s.zones.length = Zs.length := by rw [<- hz, List.length_map]
 exact ⟨Zbj Zaa.len h1, by rw [hl]; exact h.le, h.cap, hz ▸ ZoF h (ZdT h5), Zbj Zb5.len h3, Zbj ZaW.len h4⟩
end Go.Proofs.YtdlmhmmhdbbliaaGreatDoor
namespace Go.Proofs.YtdlmhmmhdbbliaaGreatDoor
open Go Go.RowKit Go.Wk
abbrev Zfm (q : ZE) : It := .row (.slice q.A q.z.eras.length q.c) 75 13 q.z.eras.length (q.z.eras.flatMap DEra.enc)
def ZuB (s : Zai) (v : Value) (O : List It) : Prop :=
 ∃ Ar cr Az cz Al cl As cs Zs, v = srcV Ar Az Al As cr cz cl cs s /\ Zs.map ZE.z = s.zones /\ O = rowR Ar cr s.rules :: rowZ Az cz Zs :: rowL Al cl s.links :: rowS As cs s.shifts :: Zs.map Zfm
theorem Zsh {s : Zai} {v : Value} {O : List It} (h : ZuB s v O) : ∃ O', Zzg s v O' /\ ∀ base w', Zaw base O w' -> Zaw base O' w' := by
 obtain ⟨Ar, cr, Az, cz, Al, cl, As, cs, Zs, rfl, hz, rfl⟩ := h
 refine ⟨_, ⟨Ar, cr, Az, cz, Al, cl, As, cs, Zs, foot (Zs.map Zfm), rfl, hz, rfl⟩, fun base w' hH => ?_⟩
 have h1 : Zaw base (Zs.map Zfm ++ [rowR Ar cr s.rules, rowZ Az cz Zs, rowL Al cl s.links, rowS As cs s.shifts]) w' := hH.perm (List.perm_append_comm (l₁ := [rowR Ar cr s.rules, rowZ Az cz Zs, rowL Al cl s.links, rowS As cs s.shifts]))
 have h2 := h1.fact (p := Zja Zs) (fun w2 hi q hq => Zbj DEra.len (hi (Zfm q) (List.mem_map.2 ⟨q, hq, rfl⟩)))
 exact h2.perm (List.perm_append_comm (l₁ := [_]) (l₂ := [rowR Ar cr s.rules, rowZ Az cz Zs, rowL Al cl s.links, rowS As cs s.shifts]))
theorem SubO.permT {l A B O : List It} (h : SubO (l ++ A) O) (hp : A.Perm B) : SubO (l ++ B) O := by
 obtain ⟨R, hR⟩ := h.perm
 exact SubO.ofPerm (R := R) (hR.trans ((hp.append_left l).append_right R))
section
variable {P : Program} {n : Nat} {wr : World} {fr : Fr} {O : List It} {ops : Array Oper} {K : Fr -> List It -> Prop}
end
attribute [local irreducible] W RL Does Zau Zaj retQ Calls Pu Stp RD Qy Ay
attribute [local irreducible] Zak
def Zed (n : Int) : List Value := [.int .u8 n]
theorem Zbf (A : Option Addr) (c : Nat) (l : List Int) (i n : Int) (w : World) (hA : RdSl w A c Zed 1 l) (hr : ∀ x ∈ l, inR .u8 x) (hi : 0 <= i) (hn : 0 < n) :
  Does Tryz.prog 48 [.slice A l.length c, .int .i64 i, .int .i64 n] w (fun v O => v = .int .i64 (atB l i n) /\ O = []) := by
 have hs1 := hA.le
 have hs2 := hA.cap
 unfold maxLen at hs2
 refine Zab Tryz.func48 rfl rfl rfl rfl ?_
 repeat (first | refine walk ?_)
 refine Zaf rfl (fun h => ?_) (fun h => ?_)
 ·repeat (first | refine walk ?_)
  exact ret_1 _ [] (.tmp rfl) .nil ⟨by simp at h; simp [atB, h], rfl⟩
 have h0 : l.length ≠ 0 := by simpa using h
 have hp : (0 : Int) < l.length := by omega
 have hm0 := Int.emod_nonneg i (b := (l.length : Int)) (by omega)
 have hm1 := Int.emod_lt_of_pos i hp
 have hk : (i % (l.length : Int)).toNat < l.length := by omega
 obtain ⟨hna, hca⟩ := hA.rd _ _ (List.getElem?_eq_getElem hk)
 have hv := hr _ (List.getElem_mem hk)
 have e : atB l i n = l[(i % (l.length : Int)).toNat] % n := by
  rw [atB, if_neg h0, List.getD_eq_getElem?_getD, List.getElem?_eq_getElem hk]
  rfl
 rw [e]
 generalize l[(i % (l.length : Int)).toNat] = r at *
 rw [ZjN] at hv
 repeat (first | (apply RL_pu; rfl; exact PuI) | refine walk1 ?_)
 exact rtA
theorem ZgR (A : Option Addr) (c : Nat) (l : List Int) (i : Int) (w : World) (hA : RdSl w A c Zed 1 l) (hr : ∀ x ∈ l, inR .u8 x) (hi : 0 <= i) (hi2 : i <= 1000) :
  Does Tryz.prog 49 [.slice A l.length c, .int .i64 i] w (fun v O => v = .agg #[.int .i64 (Zd9 l i).sec, .int .i64 (Zd9 l i).base] /\ O = []) := by
 have h1 := Zap l i 49 (by decide)
 have h2 := Zap l (i + 1) 3 (by decide)
 refine Zab Tryz.func49 rfl rfl rfl rfl ?_
 repeat (first | (apply RL_pu; rfl; (apply Zdd; rfl; rfl; omega)) | (refine js ?_; (first | (refine Zac (fun w' hw => Zbf A c l (i) 49 w' (hA.up hw) hr (by omega) (by omega)) ?_) | (refine Zac (fun w' hw => Zbf A c l (i + 1) 3 w' (hA.up hw) hr (by omega) (by omega)) ?_) | (refine bx ?_; intro bk))) | refine walk1 ?_)
 exact ret_1 _ [] (.cellB rfl (by repeat' constructor) rfl rfl) .nil ⟨rfl, rfl⟩
theorem DDay.len3 (d : DDay) : d.enc.length = 3 := rfl
theorem ZgZ {G : Prop} (h : G := by (first | (apply Pu_loadO1; rfl; exact hp 0 _ rfl) | (apply Zdd; rfl; rfl; omega))) : G := h
theorem Zka {G : Prop} (h : G := by first | (apply Qy_y; rfl; exact ZgZ) | exact QyA) : G := h
theorem Zkb {G : Prop} (h : G := by repeat (first | exact QF.nil | (apply QF.mk; rfl; rfl; decide +kernel; exact Zka))) : G := h
theorem ZgY {G : Prop} (h : G := by (apply Zgn (cs := (Zhp l i).enc); rfl; rfl; (intro w' _ hO; exact ((ZkB (c := 3) (l := dayB l i) (t := 69) DDay.len3 (Nat.le_refl 3) (by decide) (hO.of (A := .blk bk ((dayB l i).flatMap DDay.enc) _) (by repeat' constructor))).rd _ _ hget).2))) : G := h
theorem Zj9 {G : Prop} (h : G := by first | (apply Qy_y; rfl; exact ZgY) | exact QyA) : G := h
theorem Zrc {G : Prop} (h : G := by repeat (first | exact QF.nil | (apply QF.mk; rfl; rfl; decide +kernel; exact Zj9))) : G := h
theorem ZjW (A : Option Addr) (c : Nat) (l : List Int) (i : Int) (ad : Addr) (w : World) (hA : RdSl w A c Zed 1 l) (hr : ∀ x ∈ l, inR .u8 x) (hi : 0 <= i) (hi2 : i <= 1000) (hp : Zal w ad [.slice A l.length c]) :
  Does Tryz.prog 85 [.int .i64 i, .pointer (some ad)] w (fun v O => v = .agg #[.int .i64 (Zhp l i).kind, .int .i64 (Zhp l i).week, .int .i64 (Zhp l i).day] /\ O = []) := by
 have h1 := Zap l i 7 (by decide)
 have h2 := Zap l (i + 1) 4 (by decide)
 have h3 := Zap l (i + 1) 28 (by decide)
 have h4 := Zap l (i + 2) 3 (by decide)
 refine Zab Tryz.func85 rfl rfl rfl rfl ?_
 repeat (first | (apply RL_pu; rfl; exact ZgZ) | (apply RD_Q; rfl; rfl; decide +kernel; rfl; rfl; exact Zka) | refine walk1 ?_ | (refine jg ?_; (try intro F); (first | (refine Zac (fun w' hw => Zbf A c l (i) 7 w' (hA.up hw) hr (by omega) (by omega)) ?_) | (refine Zac (fun w' hw => Zbf A c l (i + 1) 4 w' (hA.up hw) hr (by omega) (by omega)) ?_) | (refine Zac (fun w' hw => Zbf A c l (i + 1) 28 w' (hA.up hw) hr (by omega) (by omega)) ?_) | (refine Zac (fun w' hw => Zbf A c l (i + 2) 3 w' (hA.up hw) hr (by omega) (by omega)) ?_) | (refine bx ?_; intro bk) | (refine stA ?_)); first | refine ⟨_, EndsA, Zkb, ?_⟩ | refine fin ?_) | (refine jn ?_; (try intro F); (first | (refine bx ?_; intro bk) | (refine stA ?_) | (apply Zae; first | exact ZgZ | exact PuA)); first | refine ⟨_, EndsA, Zkb, ?_⟩ | refine fin ?_) | (apply RD_W; rfl; intro bk))
 have hget : (dayB l i)[(atB l (i + 2) 3).toNat]? = some (Zhp l i) := by
  have hk : (atB l (i + 2) 3).toNat < (dayB l i).length := by simp only [dayB, List.length_cons, List.length_nil]; omega
  rw [Zhp, List.getD_eq_getElem?_getD, List.getElem?_eq_getElem hk]
  rfl
 repeat (first | (apply RL_pu; rfl; exact ZgY) | (apply RD_Q; rfl; rfl; decide +kernel; rfl; rfl; exact Zj9) | refine walk1 ?_ | (refine jn ?_; (try intro F); (first | (refine bx ?_; intro bk) | (refine stA ?_) | (apply Zae; first | exact ZgY | exact PuA)); first | refine ⟨_, EndsA, Zrc, ?_⟩ | refine fin ?_) | (apply RD_W; rfl; intro bk))
 exact ret_1 _ [] (.cellB rfl (by repeat' constructor) rfl rfl) .nil ⟨rfl, rfl⟩
attribute [local irreducible] atB Zhp Zd9
theorem Zpv {w : World} {b : Nat} {cs : List Value} {t : TypeId} (h : (It.blk b cs t).sat w) : Zal w ⟨b, 0, none⟩ cs := fun j v hj => (ZbG h j v hj).2
set_option maxHeartbeats 8000000 in
theorem ZhZ (A : Option Addr) (c : Nat) (l : List Int) (i a b save : Int) (w : World) (hA : RdSl w A c Zed 1 l) (hr : ∀ x ∈ l, inR .u8 x) (hi : 0 <= i) (hi2 : i <= 900) :
  Does Tryz.prog 50 [.slice A l.length c, .int .i64 i, .int .i64 a, .int .i64 b, .int .i64 save] w (fun v O => ∃ k, v = .slice (some ⟨k, 0, none⟩) 2 2 /\ O = [.blk k ((ZfS l i a b save).flatMap Zaa.enc) 82]) := by
 have r1 := Zap l i 3 (by decide)
 have r2 := Zap l (i + 1) 3 (by decide)
 have r3 := Zap l (i + 8) 3 (by decide)
 have r4 := Zap l (i + 14) 2 (by decide)
 have r5 := Zap l (i + 2) 4 (by decide)
 refine Zab Tryz.func50 rfl rfl rfl rfl ?_
 repeat (first | refine ZuH ?_ | (refine jn ?_; (try intro F); (first | (refine bx ?_; intro bk) | (refine stA ?_) | (apply Zae; exact PuA)); refine fin ?_) | (apply RD_W; rfl; intro bk))
 generalize bk = b5
 refine ZbZ (fun fr' O' => ∃ b1, Sub [(0, .slice A l.length c), (1, .int .i64 i), (2, .int .i64 a), (3, .int .i64 b), (4, .int .i64 save), (5, .pointer (some ⟨b5, 0, none⟩)), (11, .func (.func 85) #[] #[.pointer (some ⟨b5, 0, none⟩)]), (12, .pointer (some ⟨b1, 0, none⟩))] fr' /\ SubO [.blk b1 (Znt l i a b save).enc 82, .blk b5 [.slice A l.length c] 61] O') ?_ ?_
 ·repeat (first | refine walk ?_ | (refine jg ?_; (try intro F); (first | (refine Zac (fun w' hw => Zbf A c l (i) 3 w' (hA.up hw) hr (by omega) (by omega)) ?_) | (refine Zac (fun w' hw => Zbf A c l (i + 8) 3 w' (hA.up hw) hr (by omega) (by omega)) ?_) | (refine Zac (fun w' hw => ZgR A c l (i + 6) w' (hA.up hw) hr (by omega) (by omega)) ?_) | (apply Zaq (f := 85) (us := []) (cs := [.pointer (some ⟨b5, 0, none⟩)]) (vs := [.int .i64 (i + 3)]) (h := fun w' hw hO => ZjW A c l (i + 3) ⟨b5, 0, none⟩ w' (hA.up hw) hr (by omega) (by omega) (Zpv (hO.of (A := .blk b5 _ _) (by repeat' constructor)))); rfl; rfl; rintro v O' ⟨rfl, rfl⟩) | (refine bx ?_; intro bk) | (refine stA ?_)); refine fin ?_) | (refine jn ?_; (try intro F); (first | (refine bx ?_; intro bk) | (refine stA ?_) | (apply Zae; exact PuA)); refine fin ?_) | (apply RD_W; rfl; intro bk))
  exact ⟨rfl, _, SFA, SOA⟩
 rintro fr' O' ⟨b1, hf, hO⟩
 apply thenQ_n
 refine Zcz hf hO ?_
 repeat (first | refine ZuH ?_ | (refine jn ?_; (try intro F); (first | (refine bx ?_; intro bk) | (refine stA ?_) | (apply Zae; exact PuA)); refine fin ?_) | (apply RD_W; rfl; intro bk))
 refine ZbZ (fun fr' O' => ∃ b2, Sub [(0, .slice A l.length c), (1, .int .i64 i), (2, .int .i64 a), (3, .int .i64 b), (4, .int .i64 save), (5, .pointer (some ⟨b5, 0, none⟩)), (11, .func (.func 85) #[] #[.pointer (some ⟨b5, 0, none⟩)]), (12, .pointer (some ⟨b1, 0, none⟩)), (13, .pointer (some ⟨b2, 0, none⟩))] fr' /\ SubO [.blk b2 (Zqe l i a b 0).enc 82, .blk b1 (Znt l i a b save).enc 82, .blk b5 [.slice A l.length c] 61] O') ?_ ?_
 ·repeat (first | refine walk ?_ | (refine jg ?_; (try intro F); (first | (refine Zac (fun w' hw => Zbf A c l (i + 1) 3 w' (hA.up hw) hr (by omega) (by omega)) ?_) | (refine Zac (fun w' hw => Zbf A c l (i + 14) 2 w' (hA.up hw) hr (by omega) (by omega)) ?_) | (refine Zac (fun w' hw => ZgR A c l (i + 12) w' (hA.up hw) hr (by omega) (by omega)) ?_) | (apply Zaq (f := 85) (us := []) (cs := [.pointer (some ⟨b5, 0, none⟩)]) (vs := [.int .i64 (i + 9)]) (h := fun w' hw hO => ZjW A c l (i + 9) ⟨b5, 0, none⟩ w' (hA.up hw) hr (by omega) (by omega) (Zpv (hO.of (A := .blk b5 _ _) (by repeat' constructor)))); rfl; rfl; rintro v O' ⟨rfl, rfl⟩) | (refine bx ?_; intro bk) | (refine stA ?_)); refine fin ?_) | (refine jn ?_; (try intro F); (first | (refine bx ?_; intro bk) | (refine stA ?_) | (apply Zae; exact PuA)); refine fin ?_) | (apply RD_W; rfl; intro bk))
  exact ⟨rfl, _, SFA, SOA⟩
 rintro fr' O' ⟨b2, hf, hO⟩
 apply thenQ_n
 refine Zcz hf hO ?_
 repeat (first | refine walk ?_ | (refine jg ?_; (try intro F); (first | (refine Zac (fun w' hw => Zbf A c l (i + 2) 4 w' (hA.up hw) hr (by omega) (by omega)) ?_) | (refine bx ?_; intro bk) | (refine stA ?_)); refine fin ?_) | (refine jn ?_; (try intro F); (first | (refine bx ?_; intro bk) | (refine stA ?_) | (apply Zae; exact PuA)); refine fin ?_) | (apply RD_W; rfl; intro bk))
 generalize hra : Znt l i a b save = ra
 generalize hrb : Zqe l i a b 0 = rb
 refine Zcz (fr' := [(65, .bool (decide (atB l (i + 2) 4 = 0))), (12, .pointer (some ⟨b1, 0, none⟩)), (13, .pointer (some ⟨b2, 0, none⟩))]) SFA (show SubO [.blk b2 [.string rb.name, .int .i64 rb.from_, .int .i64 rb.to, .int .i64 rb.month, .int .i64 rb.day.kind, .int .i64 rb.day.week, .int .i64 rb.day.day, .int .i64 rb.at_.sec, .int .i64 rb.at_.base, .int .i64 rb.save, .string rb.letter] 82, .blk b1 [.string ra.name, .int .i64 ra.from_, .int .i64 ra.to, .int .i64 ra.month, .int .i64 ra.day.kind, .int .i64 ra.day.week, .int .i64 ra.day.day, .int .i64 ra.at_.sec, .int .i64 ra.at_.base, .int .i64 ra.save, .string ra.letter] 82] _ from SOA) ?_
 refine Zaf rfl (fun h => ?_) (fun h => ?_)
 ·have e : ZfS l i a b save = [⟨ra.name, ra.from_, ra.to, ra.month, ra.day, ra.at_, rb.save, ra.letter⟩, ⟨rb.name, rb.from_, rb.to, rb.month, rb.day, rb.at_, ra.save, rb.letter⟩] := by
   rw [ZfS, if_pos (by simpa using h), <- hra, <- hrb]
   rfl
  rw [e]
  repeat (first | refine walk ?_ | (refine jn ?_; (try intro F); (first | (refine bx ?_; intro bk) | (refine stA ?_) | (apply Zae; exact PuA)); refine fin ?_) | (apply RD_W; rfl; intro bk))
  exact ret_1 _ [.blk bk (List.flatMap Zaa.enc [⟨ra.name, ra.from_, ra.to, ra.month, ra.day, ra.at_, rb.save, ra.letter⟩, ⟨rb.name, rb.from_, rb.to, rb.month, rb.day, rb.at_, ra.save, rb.letter⟩]) 82] (.tmp rfl) SOA ⟨_, rfl, rfl⟩
 have e : ZfS l i a b save = [ra, rb] := by rw [ZfS, if_neg (by simpa using h), <- hra, <- hrb]
 rw [e]
 repeat (first | refine walk ?_ | (refine jn ?_; (try intro F); (first | (refine bx ?_; intro bk) | (refine stA ?_) | (apply Zae; exact PuA)); refine fin ?_) | (apply RD_W; rfl; intro bk))
 exact ret_1 _ [.blk bk (List.flatMap Zaa.enc [ra, rb]) 82] (.tmp rfl) SOA ⟨_, rfl, rfl⟩
end Go.Proofs.YtdlmhmmhdbbliaaGreatDoor
