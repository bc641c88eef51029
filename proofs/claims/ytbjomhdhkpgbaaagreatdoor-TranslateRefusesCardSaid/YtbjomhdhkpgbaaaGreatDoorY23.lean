/- Parts of the proof. -/
import Derived.Test.YtbjomhdhkpgbaaaGreatDoorY22
import Derived.Test.YtbjomhdhkpgbaaaGreatDoorY09
import Derived.Test.YtbjomhdhkpgbaaaGreatDoorY07
import Derived.Test.YtbjomhdhkpgbaaaGreatDoorY04
import Derived.Test.YtbjomhdhkpgbaaaGreatDoorY05
import Derived.Laws.Strings2
set_option maxHeartbeats 4000000
set_option linter.unusedVariables false
set_option linter.unusedSimpArgs false
namespace Go.Proofs.YtbjomhdhkpgbaaaGreatDoor
open Go Go.RowKit Go.Wk
def fmtU : List ByteArray := [⟨#[76, 77, 84]⟩, ⟨#[71, 77, 84, 47, 66, 83, 84]⟩, ⟨#[67, 69, 37, 115, 84]⟩, ⟨#[37, 122]⟩, ⟨#[67, 69, 84, 47, 67, 69, 83, 84]⟩, ⟨#[69, 69, 37, 115, 84]⟩, ⟨#[69, 37, 115, 83, 84]⟩, ⟨#[87, 83, 84]⟩]
def Zv0 (u : DUntil) (Y : Int) : Prop := (∃ D S B, u = ⟨true, Y, 12, ⟨1, 0, D⟩, ⟨S, B⟩⟩ /\ 5 <= D /\ D <= 24 /\ 0 <= S /\ S <= 86400 /\ 0 <= B /\ B <= 2) \/
 (∃ d S B, u = ⟨true, Y + 1, 1, d, ⟨S, B⟩⟩ /\ ((d.kind = 1 /\ d.week = 0 /\ 1 <= d.day /\ d.day <= 20) \/ (d.kind = 3 /\ (0 <= d.week /\ d.week <= 6) /\ d.day = 8)) /\ 0 <= S /\ S <= 86400 /\ 0 <= B /\ B <= 2)
theorem ZsP {y m : Int} {d : DDay} {S B least x : Int} (hy : 1850 <= y /\ y <= 2149) (h0 : onD y m d = (x, 0)) (h3 : 0 <= S) (h4 : S <= 86400) (h5 : 0 <= B) (h6 : B <= 2) (hl : -3600 <= least /\ least <= 0) :
  ZaJ ⟨true, y, m, d, ⟨S, B⟩⟩ least = 0 /\ ZaO ⟨true, y, m, d, ⟨S, B⟩⟩ least = (86400 * x + S + (if B = 1 then least else 0), 0) := by
 have e1 : ZaJ ⟨true, y, m, d, ⟨S, B⟩⟩ least = 0 := by
  have hc : ZaQ ⟨S, B⟩ = true := by
   unfold ZaQ
   simp
   omega
  unfold ZaJ
  dsimp only
  rw [if_neg (by omega), if_neg (by decide), if_neg (by rw [hc]; simp; omega), h0, if_neg]
  rintro (h | h | h)
  ·exact h rfl
  ·split at h <;> omega
  ·split at h <;> omega
 refine ⟨e1, ?_⟩
 unfold ZaO
 rw [if_neg (by rw [e1]; decide), h0]
theorem ZAt {y : Int} {d : DDay} (hy : 1850 <= y /\ y <= 2149) (hd : (d.kind = 1 /\ d.week = 0 /\ 1 <= d.day /\ d.day <= 20) \/ (d.kind = 3 /\ (0 <= d.week /\ d.week <= 6) /\ d.day = 8)) : ∃ x, onD y 1 d = (x, 0) /\ mar1 (y - 1) + 306 <= x /\ x <= mar1 (y - 1) + 325 := by
 have hin : inY y = true := by
  unfold inY
  simp
  omega
 have hL := Zk1 y 1 (by decide) (by decide)
 have hok : Zb5 y 1 1 = true := by
  unfold Zb5
  rw [hin]
  simp
  omega
 have hn : ZbV y 1 1 = mar1 (y - 1) + 306 := by
  unfold ZbV
  rw [if_pos (by decide)]
  unfold Zht mar1
  rw [show Zbd.getD ((1 : Int) + 12 - 3).toNat 0 = 306 by decide]
  omega
 have hdd : Zfs d := by
  obtain ⟨k, wk, dd⟩ := d
  dsimp only at hd
  rcases hd with ⟨rfl, rfl, h1, h2⟩ | ⟨rfl, h1, rfl⟩
  ·exact .inr (.inr ⟨rfl, rfl, h1, by dsimp only; omega⟩)
  ·exact .inr (.inl ⟨rfl, h1.1, h1.2, by show (1 : Int) <= 8; decide, by show (8 : Int) <= 22; decide, by show (8 : Int).tmod 7 = 1; decide⟩)
 unfold onD
 rw [if_neg (by rw [hok]; decide), if_neg (by rw [hdd.chk]; decide), if_neg (by omega), hn]
 refine ⟨_, rfl, ?_⟩
 unfold Zfr
 rcases hd with ⟨h1, _, h2, h3⟩ | ⟨h1, _, h2⟩
 ·rw [if_pos h1]
  omega
 ·rw [if_neg (by omega), if_neg (by omega), if_pos h1, h2]
  unfold ZfT
  omega
theorem Zv0.nom {u : DUntil} {Y least : Int} (h : Zv0 u Y) (hY : 1850 <= Y /\ Y <= 2148) (hl : -3600 <= least /\ least <= 0) :
  u.is = true /\ ZaJ u least = 0 /\ ∃ n, ZaO u least = (n, 0) /\ 86400 * (mar1 Y + 279) - 3600 <= n /\ n <= 86400 * (mar1 Y + 327) := by
 rcases h with ⟨D, S, B, rfl, h1, h2, h3, h4, h5, h6⟩ | ⟨d, S, B, rfl, hd, h3, h4, h5, h6⟩
 ·have hin : inY Y = true := by
   unfold inY
   simp
   omega
  have hL := Zk1 Y 12 (by decide) (by decide)
  have hdd : Zfs ⟨1, 0, D⟩ := .inr (.inr ⟨rfl, rfl, by show 1 <= D; omega, by show D <= 28; omega⟩)
  have e0 : onD Y 12 ⟨1, 0, D⟩ = (mar1 Y + 275 + D - 1, 0) := by
   have hok : Zb5 Y 12 1 = true := by
    unfold Zb5
    rw [hin]
    simp
    omega
   unfold onD
   rw [if_neg (by rw [hok]; decide), if_neg (by rw [hdd.chk]; decide), if_neg (by show ¬ lenM Y 12 < D; omega), Zm3 _ _ _ (by decide), show Zbd.getD ((12 : Int) - 3).toNat 0 = 275 by decide]
   unfold Zfr
   rw [if_pos rfl]
   dsimp only
   rw [show mar1 Y + 275 + 1 - 1 + D - 1 = mar1 Y + 275 + D - 1 by omega]
  obtain ⟨e1, e2⟩ := ZsP (B := B) (by omega) e0 h3 h4 h5 h6 hl
  refine ⟨rfl, e1, _, e2, ?_⟩
  split <;> omega
 ·obtain ⟨x, e0, e3, e4⟩ := ZAt (y := Y + 1) (by omega) hd
  rw [show Y + 1 - 1 = Y by omega] at e3 e4
  obtain ⟨e1, e2⟩ := ZsP (B := B) (by omega) e0 h3 h4 h5 h6 hl
  refine ⟨rfl, e1, _, e2, ?_⟩
  split <;> omega
def ZbH (rs : List DRule) (e : DEra) (first : Bool) : Prop :=
 (e.kind = 0 /\ e.save = 0 /\ e.set = ByteArray.empty /\ -46800 <= e.off /\ e.off <= 46800 /\ e.format ∈ fmtU) \/
 (e.kind = 1 /\ (1800 <= e.save /\ e.save <= 7200) /\ e.set = ByteArray.empty /\ -46800 <= e.off /\ e.off <= 46800 /\ e.format ∈ fmtU) \/
 (e.kind = 2 /\ first = false /\ e.save = 0 /\ -43200 <= e.off /\ e.off <= 43200 /\ e.format ∈ fmtU /\ Zcg (ofB rs e.set) /\ (ofB rs e.set).length <= 5)
theorem Zh1 (x : Int) (h : -86400 < x /\ x < 86400) : ZaS x ≠ [] := by
 unfold ZaS
 rw [if_neg (by omega)]
 exact fun hh => by cases hh
theorem Zqk (off : Int) : ∀ l : List Int, (∀ x ∈ l, -86400 < off + x /\ off + x < 86400) -> ∃ r, Zd7 off l = some r
 | [], _ => ⟨_, rfl⟩
 | x :: l, h => by
  obtain ⟨r, hr⟩ := Zqk off l fun y hy => h y (List.mem_cons_of_mem _ hy)
  have hx := h x List.mem_cons_self
  refine ⟨ZaS (off + x) :: r, ?_⟩
  rw [Zd7, if_neg (by
   rintro (hh | hh)
   ·unfold Zdr at hh; simp at hh; omega
   ·exact Zh1 _ hx hh), hr]
theorem ZiK {f : List UInt8} : ∀ l : List (List UInt8), (∀ x ∈ l, (Zb7 f 0 0 x).2 = 0) -> Zd8 f l = 0
 | [], _ => rfl
 | x :: l, h => by
  rw [Zd8, if_pos (h x List.mem_cons_self)]
  exact ZiK l fun y hy => h y (List.mem_cons_of_mem _ hy)
def Zw7 : List (List UInt8) := [[76, 77, 84], [71, 77, 84, 47, 66, 83, 84], [67, 69, 84, 47, 67, 69, 83, 84], [87, 83, 84]]
def Zw6 : List (List UInt8) := [[67, 69, 37, 115, 84], [69, 69, 37, 115, 84], [69, 37, 115, 83, 84]]
def Zqf : List (List UInt8) := [[], [83], [68], [68, 84]]
theorem ZdQ : (∀ f ∈ Zw7, ZaK f = 1 \/ ZaK f = 2) /\ (∀ f ∈ Zw6, ZaK f = 3 /\ ∀ x ∈ Zqf, (Zb7 f 0 0 x).2 = 0) /\ ZaK [37, 122] = 4 := by decide +kernel
theorem ZmO {f : ByteArray} (h : f ∈ fmtU) : f.data.toList ∈ Zw7 \/ f.data.toList ∈ Zw6 \/ f.data.toList = [37, 122] := by
 have h1 : ∀ f ∈ fmtU, f.data.toList ∈ Zw7 \/ f.data.toList ∈ Zw6 \/ f.data.toList = [37, 122] := by decide
 exact h1 f h
theorem ZwJ {x : ByteArray} (h : x ∈ [ByteArray.empty, (⟨#[83]⟩ : ByteArray), ⟨#[68]⟩, ⟨#[68, 84]⟩]) : x.data.toList ∈ Zqf := by
 have : ∀ x ∈ [ByteArray.empty, (⟨#[83]⟩ : ByteArray), ⟨#[68]⟩, ⟨#[68, 84]⟩], x.data.toList ∈ Zqf := by decide
 exact this x h
theorem Zt4 {e : DEra} {l : List DRule} (hf : e.format ∈ fmtU) (hk : e.kind = 0 \/ e.kind = 1 \/ e.kind = 2) (h0 : -86400 < e.off /\ e.off < 86400) (h1 : e.kind = 1 -> -86400 < e.off + e.save /\ e.off + e.save < 86400)
  (h2 : e.kind = 2 -> (∀ r ∈ l, r.letter.data.toList ∈ Zqf) /\ (Zbg l).2 = true /\ -86400 < e.off + (Zbg l).1 /\ e.off + (Zbg l).1 < 86400) : Zdj e l = 0 := by
 unfold Zdj
 dsimp only
 rcases ZmO hf with h | h | h
 ·rcases ZdQ.1 _ h with h | h <;> rw [h] <;> simp
 ·obtain ⟨h3, h4⟩ := ZdQ.2.1 _ h
  rw [h3, if_neg (by decide), if_pos rfl]
  refine ZiK _ fun x hx => h4 x ?_
  split at hx
  ·rename_i hk2
   obtain ⟨r, hr, rfl⟩ := List.mem_map.1 hx
   exact (h2 hk2).1 r hr
  ·rw [List.mem_singleton] at hx
   subst hx
   decide
 ·have he : (Zba e l).2 = 0 := by
   have hj : ∀ s : List Int, (∀ x ∈ s, -86400 < e.off + x /\ e.off + x < 86400) -> (match Zd7 e.off s with | none => (([], 3) : List UInt8 × Int) | some r => (Zb9 r, 0)).2 = 0 := fun s hs => by
    obtain ⟨r, hr⟩ := Zqk e.off s hs
    rw [hr]
   unfold Zba
   dsimp only
   rcases hk with hk | hk | hk
   ·rw [if_pos hk]
    exact hj [0] fun x hx => by rw [List.mem_singleton] at hx; subst hx; omega
   ·rw [if_neg (by omega), if_pos hk]
    exact hj [e.save] fun x hx => by rw [List.mem_singleton] at hx; subst hx; exact h1 hk
   ·obtain ⟨_, h3, h4⟩ := h2 hk
    rw [if_neg (by omega), if_neg (by omega), if_pos hk, if_pos h3]
    exact hj [0, (Zbg l).1] fun x hx => by
     simp only [List.mem_cons, List.not_mem_nil, or_false] at hx
     rcases hx with rfl | rfl
     ·omega
     ·exact h4
  rw [h, ZdQ.2.2, if_neg (by decide), if_neg (by decide), if_pos (.inl rfl), if_neg]
  rw [he]
  rintro (hh | ⟨hh, _⟩)
  ·exact hh rfl
  ·cases hh
theorem ZbH.fmt {rs : List DRule} {e : DEra} {first : Bool} (h : ZbH rs e first) : e.format ∈ fmtU := by
 rcases h with ⟨_, _, _, _, _, h⟩ | ⟨_, _, _, _, _, h⟩ | ⟨_, _, _, _, _, h, _⟩
 ·exact h
 ·exact h
 ·exact h
theorem ZbH.states {rs : List DRule} {e : DEra} {first : Bool} (h : ZbH rs e first) : (ZaD rs e).length <= 5 /\ (∀ x ∈ ZaD rs e, -54000 <= e.off + x.1 /\ e.off + x.1 <= 54000) /\ -54000 <= e.off /\ e.off <= 54000 /\ (Zaz rs e = [] \/ Zcg (Zaz rs e)) := by
 unfold ZaD Zaz
 rcases h with ⟨hk, hs, _, h1, h2, _⟩ | ⟨hk, hs, _, h1, h2, _⟩ | ⟨hk, _, _, h1, h2, _, h3, h4⟩
 ·rw [if_neg (by omega), if_neg (by omega), if_neg (by omega)]
  refine ⟨by simp, fun x hx => ?_, by omega, by omega, .inl rfl⟩
  rw [List.mem_singleton] at hx
  subst hx
  dsimp only
  omega
 ·rw [if_pos hk, if_neg (by omega)]
  refine ⟨by simp, fun x hx => ?_, by omega, by omega, .inl rfl⟩
  rw [List.mem_singleton] at hx
  subst hx
  dsimp only
  omega
 ·rw [if_neg (by omega), if_pos hk, if_pos hk]
  refine ⟨by rw [List.length_map]; exact h4, fun x hx => ?_, by omega, by omega, .inr h3⟩
  obtain ⟨r, hr, rfl⟩ := List.mem_map.1 hx
  have := (h3.rule r hr).save
  dsimp only
  omega
theorem ZrI : Zai [] = 0 := rfl
theorem ZbH.least {rs : List DRule} {e : DEra} {first : Bool} (h : ZbH rs e first) : -3600 <= Zai (Zaz rs e) /\ Zai (Zaz rs e) <= 0 := by
 obtain ⟨_, _, _, _, hs⟩ := h.states
 rcases hs with hs | hs
 ·rw [hs, ZrI]; decide
 ·exact hs.least
theorem ZbH.chk {rs : List DRule} {e : DEra} {first : Bool} (h : ZbH rs e first) (hu : e.til.is = true \/ e.til = Zy6) : ZcJ rs e first = 0 := by
 obtain ⟨_, s2, s3, s4, _⟩ := h.states
 have hun : ZeC e = false := by
  have ht : (!e.til.is && !decide ({ e.til with is := false } = dU0)) = false := by
   rcases hu with hu | hu
   ·rw [hu]; rfl
   ·rw [hu]; decide
  unfold ZeC
  rw [ht]
  rcases h with ⟨hk, hs, he, _⟩ | ⟨hk, hs, he, _⟩ | ⟨hk, _, hs, _⟩
  ·rw [hk, hs, he]; decide
  ·rw [hk, he]; simp
  ·rw [hk, hs]; simp
 have hf : Zdj e (Zaz rs e) = 0 := by
  refine Zt4 h.fmt ?_ (by omega) ?_ ?_
  ·rcases h with ⟨hk, _⟩ | ⟨hk, _⟩ | ⟨hk, _⟩
   ·exact .inl hk
   ·exact .inr (.inl hk)
   ·exact .inr (.inr hk)
  ·intro hk
   have := s2 (e.save, ByteArray.empty) (by unfold ZaD; rw [if_pos hk]; exact List.mem_singleton.2 rfl)
   dsimp only at this
   omega
  ·intro hk
   rcases h with ⟨hk2, _⟩ | ⟨hk2, _⟩ | ⟨_, _, _, h1, h2, _, h3, h4⟩
   ·omega
   ·omega
   rw [Zaz, if_pos hk]
   obtain ⟨s, _, q1, q2, q3, _⟩ := h3.other
   rw [q3]
   exact ⟨fun r hr => ZwJ (h3.rule r hr).letter, rfl, by dsimp only; omega, by dsimp only; omega⟩
 have hkk : (0 <= e.kind /\ e.kind <= 2) /\ (¬ (first = true /\ e.kind = 2)) /\ (¬ (e.kind = 2 /\ Zaz rs e = [])) /\ ¬ (e.kind = 1 /\ (e.save < 1 \/ 10800 < e.save)) := by
  rcases h with ⟨hk, _⟩ | ⟨hk, hs, _⟩ | ⟨hk, hf, _, _, _, _, h3, _⟩
  ·exact ⟨by omega, by omega, by omega, by omega⟩
  ·exact ⟨by omega, by omega, by omega, by omega⟩
  ·refine ⟨by omega, by rw [hf]; simp, ?_, by omega⟩
   rintro ⟨_, hn⟩
   rw [Zaz, if_pos hk] at hn
   obtain ⟨_, _, _, ⟨r, hr, _⟩, _⟩ := h3.saves
   rw [hn] at hr
   cases hr
 unfold ZcJ
 rw [if_neg (by omega), if_neg hkk.2.1, if_neg hkk.2.2.1, if_neg hkk.2.2.2, if_neg, if_neg (by rw [hun]; decide), hf]
 rintro (hh | hh)
 ·unfold Zbx at hh; simp at hh; omega
 ·obtain ⟨x, hx, hh⟩ := List.any_eq_true.1 hh
  have := s2 x hx
  unfold Zbx at hh
  simp at hh
  omega
structure ZcN (rs : List DRule) (l : List DEra) (Y : Nat -> Int) : Prop where
 len : 1 <= l.length /\ l.length <= 4
 era : ∀ k e, l[k]? = some e -> ZbH rs e (decide (k = 0))
 yr : ∀ k, k + 1 < l.length -> 1850 <= Y k /\ Y k <= 2148
 inc : ∀ k, k + 2 < l.length -> Y k < Y (k + 1)
 til : ∀ k e, l[k]? = some e -> if k + 1 < l.length then Zv0 e.til (Y k) else e.til = Zy6
theorem Zox {α : Type} {l : List α} {k : Nat} {d : α} (h : k < l.length) : ∃ e, l[k]? = some e /\ l.getD k d = e := ⟨l[k], List.getElem?_eq_getElem h, by rw [List.getD_eq_getElem?_getD, List.getElem?_eq_getElem h]; rfl⟩
theorem Zcg.far_til {l : List DRule} (h : Zcg l) {n Y : Int} (h1 : 86400 * (mar1 Y + 279) - 3600 <= n) (h2 : n <= 86400 * (mar1 Y + 327)) : farD l n = true := by
 refine h.farD_of n fun j r y e hj he => ?_
 obtain ⟨_, _, _, _, b1, b2⟩ := (h.rule r (List.mem_of_getElem? hj)).ev h.least he
 have hb := ZtF r.month
 rcases Int.lt_or_le Y y with hy | hy
 ·have := ZgS hy
  omega
 ·have := ZtB hy
  omega
theorem ZcN.endOk {rs : List DRule} {l : List DEra} {Y : Nat -> Int} (h : ZcN rs l Y) {k : Nat} (hk : k < l.length) : Zfz rs l k = 0 := by
 obtain ⟨e, he, hd⟩ := Zox (d := dE0) hk
 have hE := h.era k e he
 have hT := h.til k e he
 unfold Zfz
 dsimp only
 rw [hd]
 by_cases hl : k + 1 < l.length
 ·rw [if_pos hl] at hT
  obtain ⟨t1, t2, n, t3, t4, t5⟩ := hT.nom (h.yr k hl) hE.least
  rw [if_neg (by rw [t1, decide_eq_true hl]; simp), if_neg (by rw [t1]; decide), if_neg (by rw [t2]; decide), t3, if_neg, if_neg]
  ·rintro ⟨hk2, hf⟩
   obtain ⟨_, _, _, _, hs⟩ := hE.states
   rcases hs with hs | hs
   ·rcases hE with ⟨hk3, _⟩ | ⟨hk3, _⟩ | ⟨_, _, _, _, _, _, h3, _⟩
    ·omega
    ·omega
    ·rw [Zaz, if_pos hk2] at hs
     obtain ⟨_, _, _, ⟨r, hr, _⟩, _⟩ := h3.saves
     rw [hs] at hr
     cases hr
   ·rw [hs.far_til t4 t5] at hf
    cases hf
  ·rintro ⟨hk0, hh⟩
   obtain ⟨b, hb, hbd⟩ := Zox (l := l) (k := k - 1) (d := dE0) (by omega)
   rw [hbd] at hh
   have hT2 := h.til (k - 1) b hb
   rw [if_pos (by omega)] at hT2
   obtain ⟨_, _, m, m3, m4, m5⟩ := hT2.nom (h.yr (k - 1) (by omega)) (h.era (k - 1) b hb).least
   rw [m3] at hh
   have hy := h.inc (k - 1) (by omega)
   rw [show k - 1 + 1 = k by omega] at hy
   have := ZgS hy
   rcases hh with hh | hh
   ·exact hh rfl
   ·dsimp only at hh
    omega
 ·rw [if_neg hl] at hT
  have ht : e.til.is = false := by rw [hT]; rfl
  rw [if_neg (by rw [ht, decide_eq_false hl]; simp), if_pos ht]
theorem ZcN.eraOk {rs : List DRule} {l : List DEra} {Y : Nat -> Int} (h : ZcN rs l Y) {k : Nat} (hk : k < l.length) : ZcJ rs (l.getD k dE0) (decide (k = 0)) = 0 := by
 obtain ⟨e, he, hd⟩ := Zox (d := dE0) hk
 rw [hd]
 refine (h.era k e he).chk ?_
 have hT := h.til k e he
 split at hT
 ·rcases hT with ⟨_, _, _, hh, _⟩ | ⟨_, _, _, hh, _⟩ <;> exact .inl (by rw [hh])
 ·exact .inr hT
theorem ZcN.go {rs : List DRule} {l : List DEra} {Y : Nat -> Int} (h : ZcN rs l Y) (i : Nat) : ∀ f k, k + f <= l.length -> Zca rs l i f k = none
 | 0, _, _ => rfl
 | f + 1, k, hk => by
  rw [Zca, if_neg (by rw [h.eraOk (by omega)]; decide), if_neg (by rw [h.endOk (by omega)]; decide)]
  exact h.go i f (k + 1) (by omega)
theorem Zuh (n : Int) : (dig2 n).length = 2 := rfl
theorem Zc2 (x : Int) : (ZaS x).length <= 7 := by
 unfold ZaS
 split
 ·exact Nat.zero_le _
 ·simp only [List.length_cons, List.length_append, Zuh]
  have h : ∀ (c : Prop) [Decidable c] (n : Int), (if c then ([] : List UInt8) else dig2 n).length <= 2 := fun c _ n => by
   split
   ·exact Nat.zero_le _
   ·exact Nat.le_refl _
  have h1 := h
  generalize ha : (if (if x < 0 then -x else x) % 3600 = 0 then ([] : List UInt8) else dig2 ((if x < 0 then -x else x) / 60 % 60)) = a
  generalize hb : (if (if x < 0 then -x else x) % 60 = 0 then ([] : List UInt8) else dig2 ((if x < 0 then -x else x) % 60)) = b
  have h2 : a.length <= 2 := by rw [<- ha]; exact h _ _
  have h3 : b.length <= 2 := by rw [<- hb]; exact h _ _
  omega
theorem ZoA : ∀ f ∈ Zw7, (match Zbk f with | none => decide (ZaK f = 1) && decide (f.length <= 7) | some (a, b) => decide (a.length <= 7) && decide (b.length <= 7)) = true := by decide +kernel
theorem ZfQ : (∀ f ∈ Zw6, Zbk f = none) /\ Zbk [37, 122] = none := by decide +kernel
theorem Zxt {f : ByteArray} (h : f ∈ fmtU) (off save : Int) (x : List UInt8) : (Zb7 f.data.toList off save x).1.length <= 7 := by
 rcases ZmO h with h | h | h
 ·have hp := ZoA _ h
  unfold Zb7
  cases hq : Zbk f.data.toList with
  | none =>
   rw [hq] at hp
   simp at hp
   dsimp only
   rw [hp.1, if_neg (by decide), if_neg (by decide), if_pos (.inl rfl)]
   rw [Array.length_toList]
   exact hp.2
  | some ab =>
   obtain ⟨a, b⟩ := ab
   rw [hq] at hp
   simp at hp
   dsimp only
   split
   ·exact hp.1
   ·exact hp.2
 ·obtain ⟨hk, _⟩ := ZdQ.2.1 _ h
  unfold Zb7
  rw [ZfQ.1 _ h, hk]
  dsimp only
  rw [if_pos rfl]
  cases Zcc f.data.toList with
  | none => exact Nat.zero_le _
  | some ab =>
   obtain ⟨a, b⟩ := ab
   dsimp only
   split
   ·rename_i hh
    unfold ZcZ Zdc at hh
    simp only [Bool.and_eq_true, decide_eq_true_eq] at hh
    dsimp only
    omega
   ·exact Nat.zero_le _
 ·unfold Zb7
  rw [h, ZfQ.2, ZdQ.2.2]
  dsimp only
  rw [if_neg (by decide), if_pos rfl]
  split
  ·exact Zc2 _
  ·exact Nat.zero_le _
theorem Zh9 (x : List UInt8) : ∀ l, Zc6 (l ++ [x]) = Zc6 l + x.length + 1
 | [] => by simp [Zc6]
 | y :: l => by rw [List.cons_append, Zc6, Zh9 x l, Zc6]; omega
theorem ZuK (x : Int × List UInt8) (l : List (Int × List UInt8)) : (addP x l).length <= l.length + 1 := by
 unfold addP
 split
 ·omega
 ·rw [List.length_append]; exact Nat.le_refl _
theorem ZuL (x : List UInt8) (l : List (List UInt8)) : Zc6 (addA x l) <= Zc6 l + x.length + 1 := by
 unfold addA
 split
 ·omega
 ·rw [Zh9]; exact Nat.le_refl _
theorem ZpO {e : DEra} (he : e.format ∈ fmtU) : ∀ (l : List (Int × ByteArray)) (acc : List (Int × List UInt8) × List (List UInt8)), (stGo e l acc).1.length <= acc.1.length + l.length /\ Zc6 (stGo e l acc).2 <= Zc6 acc.2 + 8 * l.length
 | [], acc => by simp [stGo]
 | x :: l, acc => by
  have h1 := ZuK (e.off + x.1, (Zb7 e.format.data.toList e.off x.1 x.2.data.toList).1) acc.1
  have h2 := ZuL (Zb7 e.format.data.toList e.off x.1 x.2.data.toList).1 acc.2
  have h3 := Zxt he e.off x.1 x.2.data.toList
  have h4 := ZpO he l (addP (e.off + x.1, (Zb7 e.format.data.toList e.off x.1 x.2.data.toList).1) acc.1, addA (Zb7 e.format.data.toList e.off x.1 x.2.data.toList).1 acc.2)
  rw [stGo]
  dsimp only at h4 ⊢
  rw [List.length_cons]
  omega
theorem Zqw (rs : List DRule) : ∀ (l : List DEra) (acc : List (Int × List UInt8) × List (List UInt8)), (∀ e ∈ l, ∃ b, ZbH rs e b) -> (erGo rs l acc).1.length <= acc.1.length + 5 * l.length /\ Zc6 (erGo rs l acc).2 <= Zc6 acc.2 + 40 * l.length
 | [], acc, _ => by simp [erGo]
 | e :: l, acc, h => by
  obtain ⟨b, hb⟩ := h e List.mem_cons_self
  have h1 := ZpO hb.fmt (ZaD rs e) acc
  have h2 := Zqw rs l (stGo e (ZaD rs e) acc) fun x hx => h x (List.mem_cons_of_mem _ hx)
  have h3 := hb.states.1
  rw [erGo, List.length_cons]
  omega
theorem ZcN.few {rs : List DRule} {z : ZaX} {Y : Nat -> Int} (h : ZcN rs z.eras Y) : Zfy rs z = true := by
 have h1 := Zqw rs z.eras ([], []) fun e he => by
  obtain ⟨k, hk, rfl⟩ := List.mem_iff_getElem.1 he
  exact ⟨_, h.era k _ (List.getElem?_eq_getElem hk)⟩
 have h2 := h.len
 unfold Zfy
 have e0 : Zc6 [] = 0 := rfl
 rw [e0] at h1
 simp only [List.length_nil] at h1
 rw [decide_eq_true (by omega), decide_eq_true (by omega)]
 rfl
theorem Zew {rs : List DRule} : ∀ (l : List ZaX) (i : Nat), (∀ z ∈ l, ∃ Y, ZcN rs z.eras Y) -> Zby rs l i = none
 | [], _, _ => rfl
 | z :: l, i, h => by
  obtain ⟨Y, hz⟩ := h z List.mem_cons_self
  have hn : z.eras ≠ [] := fun hh => by
   have := hz.len
   rw [hh] at this
   simp at this
  rw [Zby, if_neg hn, hz.go i z.eras.length 0 (by omega)]
  dsimp only
  rw [if_neg (by rw [hz.few]; decide)]
  exact Zew l (i + 1) fun x hx => h x (List.mem_cons_of_mem _ hx)
theorem ZbH.til {rs : List DRule} {e : DEra} {b : Bool} (h : ZbH rs e b) (u : DUntil) : ZbH rs (Zz9 u e) b := h
def Zlp (z : ZaX) : ZaX := ⟨z.name, []⟩
def ZeY (s : Zab) : Zab := ⟨[], s.zones.map Zlp, s.links, []⟩
theorem Zdk (x : ByteArray) : ∀ (l : List ZaX) (k : Nat), ZbM x (l.map Zlp) k = ZbM x l k
 | [], _ => rfl
 | z :: l, k => by rw [List.map_cons, ZbM, ZbM, Zdk x l (k + 1)]; rfl
theorem Zft (s : Zab) : ∀ (l : List ZaX) (i : Nat), Za9 (ZeY s) (l.map Zlp) i = Za9 s l i
 | [], _ => rfl
 | z :: l, i => by
  rw [List.map_cons, Za9, Za9, Zft s l (i + 1), show (ZeY s).zones = s.zones.map Zlp from rfl, Zdk]
  rfl
theorem Zfw (s : Zab) : ∀ (l : List DLink) (i : Nat), Zbr (ZeY s) l i = Zbr s l i
 | [], _ => rfl
 | z :: l, i => by
  rw [Zbr, Zbr, Zfw s l (i + 1), show (ZeY s).zones = s.zones.map Zlp from rfl, Zdk, Zdk]
  rfl
theorem Zhs (s : Zab) : ∀ (f : Nat) (seen : List ByteArray) (x : ByteArray), ZcS (ZeY s) f seen x = ZcS s f seen x
 | 0, _, _ => rfl
 | f + 1, seen, x => by
  rw [ZcS, ZcS, show (ZeY s).zones = s.zones.map Zlp from rfl, Zdk, show (ZeY s).links = s.links from rfl]
  simp only [Zhs s f]
theorem Zfv (s : Zab) : ∀ (l : List DLink) (i : Nat), Zbq (ZeY s) l i = Zbq s l i
 | [], _ => rfl
 | z :: l, i => by
  rw [Zbq, Zbq, Zfv s l (i + 1), Zhs]
  rfl
theorem Zdf (s : Zab) : ZcI s = ZcI (ZeY s) := by
 unfold ZcI
 rw [show (ZeY s).zones = s.zones.map Zlp from rfl, show (ZeY s).links = s.links from rfl, Zft, Zfw, Zfv]
theorem Zy2 (a b : List DRule) (x : ByteArray) : ofB (a ++ b) x = ofB a x ++ ofB b x := List.filter_append _ _
theorem Zy3 {l : List DRule} {x : ByteArray} (h : ∀ r ∈ l, r.name = x) : ofB l x = l := List.filter_eq_self.2 fun r hr => decide_eq_true (h r hr)
theorem ZAm {l : List DRule} {x y : ByteArray} (h : ∀ r ∈ l, r.name = y) (hxy : y ≠ x) : ofB l x = [] := List.filter_eq_nil_iff.2 fun r hr => by
 rw [h r hr]
 simp [hxy]
theorem Zd3 : ∀ (l : List DRule) (acc : List ByteArray), ∀ x ∈ ZaP l acc, x ∈ acc \/ ∃ r ∈ l, r.name = x
 | [], acc, x, h => .inl h
 | a :: l, acc, x, h => by
  rw [ZaP] at h
  split at h
  ·rcases Zd3 l acc x h with h | ⟨r, h1, h2⟩
   ·exact .inl h
   ·exact .inr ⟨r, List.mem_cons_of_mem _ h1, h2⟩
  ·rcases Zd3 l (acc ++ [a.name]) x h with h | ⟨r, h1, h2⟩
   ·rw [List.mem_append, List.mem_singleton] at h
    rcases h with h | rfl
    ·exact .inl h
    ·exact .inr ⟨a, List.mem_cons_self, rfl⟩
   ·exact .inr ⟨r, List.mem_cons_of_mem _ h1, h2⟩
theorem ZeH {rs : List DRule} : ∀ l : List ByteArray, (∀ x ∈ l, ZbY rs x = none) -> Zdv rs l = none
 | [], _ => rfl
 | x :: l, h => by
  rw [Zdv, h x List.mem_cons_self]
  exact ZeH l fun y hy => h y (List.mem_cons_of_mem _ hy)
attribute [local irreducible] W RL Does Zap Zak retQ Calls Pu Stp RD Qy Ay Zal
def Zdt (n : Int) : List Value := [.int .u8 n]
theorem Zbs (A : Option Addr) (c : Nat) (l : List Int) (i n : Int) (w : World) (hA : RdSl w A c Zdt 1 l) (hr : ∀ x ∈ l, inR .u8 x) (hi : 0 <= i) (hn : 0 < n) :
  Does Tryz.prog 44 [.slice A l.length c, .int .i64 i, .int .i64 n] w (fun v O => v = .int .i64 (atB l i n) /\ O = []) := by
 have hs1 := hA.le
 have hs2 := hA.cap
 unfold maxLen at hs2
 refine Zaa Tryz.func44 rfl rfl rfl rfl ?_
 repeat (first | refine walk ?_)
 refine Zah rfl (fun h => ?_) (fun h => ?_)
 ·repeat (first | refine walk ?_)
  exact ret_1 _ [] (.tmp rfl) .nil ⟨by simp at h; simp [atB, h], rfl⟩
 have h0 : l.length ≠ 0 := by simpa using h
 have hp : (0 : Int) < l.length := by omega
 have hm0 := Int.emod_nonneg i (b := (l.length : Int)) (by omega)
 have hm1 := Int.emod_lt_of_pos i hp
 have hk : (i % (l.length : Int)).toNat < l.length := by omega
 obtain ⟨hna, hca⟩ := hA.rd _ _ (List.getElem?_eq_getElem hk)
 have hv := hr _ (List.getElem_mem hk)
 have e : atB l i n = l[(i % (l.length : Int)).toNat] % n := by
  rw [atB, if_neg h0, List.getD_eq_getElem?_getD, List.getElem?_eq_getElem hk]
  rfl
 rw [e]
 generalize l[(i % (l.length : Int)).toNat] = r at *
 rw [Zj4] at hv
 repeat (first | (apply RL_pu; rfl; exact PuI) | refine walk1 ?_)
 exact rtA
theorem Zg3 (A : Option Addr) (c : Nat) (l : List Int) (i : Int) (w : World) (hA : RdSl w A c Zdt 1 l) (hr : ∀ x ∈ l, inR .u8 x) (hi : 0 <= i) (hi2 : i <= 1000) :
  Does Tryz.prog 45 [.slice A l.length c, .int .i64 i] w (fun v O => v = .agg #[.int .i64 (Zet l i).sec, .int .i64 (Zet l i).base] /\ O = []) := by
 have h1 := Zas l i 49 (by decide)
 have h2 := Zas l (i + 1) 3 (by decide)
 refine Zaa Tryz.func45 rfl rfl rfl rfl ?_
 repeat (first | (apply RL_pu; rfl; (apply Zeu; rfl; rfl; omega)) | (refine js ?_; (first | (refine Zad (fun w' hw => Zbs A c l (i) 49 w' (hA.up hw) hr (by omega) (by omega)) ?_) | (refine Zad (fun w' hw => Zbs A c l (i + 1) 3 w' (hA.up hw) hr (by omega) (by omega)) ?_) | (refine bx ?_; intro bk))) | refine walk1 ?_)
 exact ret_1 _ [] (.cellB rfl (by repeat' constructor) rfl rfl) .nil ⟨rfl, rfl⟩
theorem DDay.len3 (d : DDay) : d.enc.length = 3 := rfl
theorem Zhd {G : Prop} (h : G := by (first | (apply Pu_loadO1; rfl; exact hp 0 _ rfl) | (apply Zeu; rfl; rfl; omega))) : G := h
theorem Zkt {G : Prop} (h : G := by first | (apply Qy_y; rfl; exact Zhd) | exact QyA) : G := h
theorem Zku {G : Prop} (h : G := by repeat (first | exact QF.nil | (apply QF.mk; rfl; rfl; decide +kernel; exact Zkt))) : G := h
theorem Zhc {G : Prop} (h : G := by (apply Zem (cs := (ZhC l i).enc); rfl; rfl; (intro w' _ hO; exact ((ZrG (c := 3) (l := dayB l i) (t := 48) DDay.len3 (Nat.le_refl 3) (by decide) (hO.of (A := .blk bk ((dayB l i).flatMap DDay.enc) _) (by repeat' constructor))).rd _ _ hget).2))) : G := h
theorem Zks {G : Prop} (h : G := by first | (apply Qy_y; rfl; exact Zhc) | exact QyA) : G := h
theorem Zsg {G : Prop} (h : G := by repeat (first | exact QF.nil | (apply QF.mk; rfl; rfl; decide +kernel; exact Zks))) : G := h
theorem Zke (A : Option Addr) (c : Nat) (l : List Int) (i : Int) (ad : Addr) (w : World) (hA : RdSl w A c Zdt 1 l) (hr : ∀ x ∈ l, inR .u8 x) (hi : 0 <= i) (hi2 : i <= 1000) (hp : Zam w ad [.slice A l.length c]) :
  Does Tryz.prog 82 [.int .i64 i, .pointer (some ad)] w (fun v O => v = .agg #[.int .i64 (ZhC l i).kind, .int .i64 (ZhC l i).week, .int .i64 (ZhC l i).day] /\ O = []) := by
 have h1 := Zas l i 7 (by decide)
 have h2 := Zas l (i + 1) 4 (by decide)
 have h3 := Zas l (i + 1) 28 (by decide)
 have h4 := Zas l (i + 2) 3 (by decide)
 refine Zaa Tryz.func82 rfl rfl rfl rfl ?_
 repeat (first | (apply RL_pu; rfl; exact Zhd) | (apply RD_Q; rfl; rfl; decide +kernel; rfl; rfl; exact Zkt) | refine walk1 ?_ | (refine jg ?_; (try intro F); (first | (refine Zad (fun w' hw => Zbs A c l (i) 7 w' (hA.up hw) hr (by omega) (by omega)) ?_) | (refine Zad (fun w' hw => Zbs A c l (i + 1) 4 w' (hA.up hw) hr (by omega) (by omega)) ?_) | (refine Zad (fun w' hw => Zbs A c l (i + 1) 28 w' (hA.up hw) hr (by omega) (by omega)) ?_) | (refine Zad (fun w' hw => Zbs A c l (i + 2) 3 w' (hA.up hw) hr (by omega) (by omega)) ?_) | (refine bx ?_; intro bk) | (refine stA ?_)); first | refine ⟨_, EndsA, Zku, ?_⟩ | refine fin ?_) | (refine jn ?_; (try intro F); (first | (refine bx ?_; intro bk) | (refine stA ?_) | (apply Zag; first | exact Zhd | exact PuA)); first | refine ⟨_, EndsA, Zku, ?_⟩ | refine fin ?_) | (apply RD_W; rfl; intro bk))
 have hget : (dayB l i)[(atB l (i + 2) 3).toNat]? = some (ZhC l i) := by
  have hk : (atB l (i + 2) 3).toNat < (dayB l i).length := by simp only [dayB, List.length_cons, List.length_nil]; omega
  rw [ZhC, List.getD_eq_getElem?_getD, List.getElem?_eq_getElem hk]
  rfl
 repeat (first | (apply RL_pu; rfl; exact Zhc) | (apply RD_Q; rfl; rfl; decide +kernel; rfl; rfl; exact Zks) | refine walk1 ?_ | (refine jn ?_; (try intro F); (first | (refine bx ?_; intro bk) | (refine stA ?_) | (apply Zag; first | exact Zhc | exact PuA)); first | refine ⟨_, EndsA, Zsg, ?_⟩ | refine fin ?_) | (apply RD_W; rfl; intro bk))
 exact ret_1 _ [] (.cellB rfl (by repeat' constructor) rfl rfl) .nil ⟨rfl, rfl⟩
attribute [local irreducible] atB ZhC Zet
theorem ZqN {w : World} {b : Nat} {cs : List Value} {t : TypeId} (h : (It.blk b cs t).sat w) : Zam w ⟨b, 0, none⟩ cs := fun j v hj => (ZbD h j v hj).2
set_option maxHeartbeats 8000000 in
theorem Zih (A : Option Addr) (c : Nat) (l : List Int) (i a b save : Int) (w : World) (hA : RdSl w A c Zdt 1 l) (hr : ∀ x ∈ l, inR .u8 x) (hi : 0 <= i) (hi2 : i <= 900) :
  Does Tryz.prog 46 [.slice A l.length c, .int .i64 i, .int .i64 a, .int .i64 b, .int .i64 save] w (fun v O => ∃ k, v = .slice (some ⟨k, 0, none⟩) 2 2 /\ O = [.blk k ((Zf8 l i a b save).flatMap DRule.enc) 56]) := by
 have r1 := Zas l i 3 (by decide)
 have r2 := Zas l (i + 1) 3 (by decide)
 have r3 := Zas l (i + 8) 3 (by decide)
 have r4 := Zas l (i + 14) 2 (by decide)
 have r5 := Zas l (i + 2) 4 (by decide)
 refine Zaa Tryz.func46 rfl rfl rfl rfl ?_
 repeat (first | refine ZyD ?_ | (refine jn ?_; (try intro F); (first | (refine bx ?_; intro bk) | (refine stA ?_) | (apply Zag; exact PuA)); refine fin ?_) | (apply RD_W; rfl; intro bk))
 generalize bk = b5
 refine Zcm (fun fr' O' => ∃ b1, Sub [(0, .slice A l.length c), (1, .int .i64 i), (2, .int .i64 a), (3, .int .i64 b), (4, .int .i64 save), (5, .pointer (some ⟨b5, 0, none⟩)), (11, .func (.func 82) #[] #[.pointer (some ⟨b5, 0, none⟩)]), (12, .pointer (some ⟨b1, 0, none⟩))] fr' /\ SubO [.blk b1 (Zn7 l i a b save).enc 56, .blk b5 [.slice A l.length c] 83] O') ?_ ?_
 ·repeat (first | refine walk ?_ | (refine jg ?_; (try intro F); (first | (refine Zad (fun w' hw => Zbs A c l (i) 3 w' (hA.up hw) hr (by omega) (by omega)) ?_) | (refine Zad (fun w' hw => Zbs A c l (i + 8) 3 w' (hA.up hw) hr (by omega) (by omega)) ?_) | (refine Zad (fun w' hw => Zg3 A c l (i + 6) w' (hA.up hw) hr (by omega) (by omega)) ?_) | (apply Zar (f := 82) (us := []) (cs := [.pointer (some ⟨b5, 0, none⟩)]) (vs := [.int .i64 (i + 3)]) (h := fun w' hw hO => Zke A c l (i + 3) ⟨b5, 0, none⟩ w' (hA.up hw) hr (by omega) (by omega) (ZqN (hO.of (A := .blk b5 _ _) (by repeat' constructor)))); rfl; rfl; rintro v O' ⟨rfl, rfl⟩) | (refine bx ?_; intro bk) | (refine stA ?_)); refine fin ?_) | (refine jn ?_; (try intro F); (first | (refine bx ?_; intro bk) | (refine stA ?_) | (apply Zag; exact PuA)); refine fin ?_) | (apply RD_W; rfl; intro bk))
  exact ⟨rfl, _, SFA, SOA⟩
 rintro fr' O' ⟨b1, hf, hO⟩
 apply thenQ_n
 refine Zcu hf hO ?_
 repeat (first | refine ZyD ?_ | (refine jn ?_; (try intro F); (first | (refine bx ?_; intro bk) | (refine stA ?_) | (apply Zag; exact PuA)); refine fin ?_) | (apply RD_W; rfl; intro bk))
 refine Zcm (fun fr' O' => ∃ b2, Sub [(0, .slice A l.length c), (1, .int .i64 i), (2, .int .i64 a), (3, .int .i64 b), (4, .int .i64 save), (5, .pointer (some ⟨b5, 0, none⟩)), (11, .func (.func 82) #[] #[.pointer (some ⟨b5, 0, none⟩)]), (12, .pointer (some ⟨b1, 0, none⟩)), (13, .pointer (some ⟨b2, 0, none⟩))] fr' /\ SubO [.blk b2 (Zrp l i a b 0).enc 56, .blk b1 (Zn7 l i a b save).enc 56, .blk b5 [.slice A l.length c] 83] O') ?_ ?_
 ·repeat (first | refine walk ?_ | (refine jg ?_; (try intro F); (first | (refine Zad (fun w' hw => Zbs A c l (i + 1) 3 w' (hA.up hw) hr (by omega) (by omega)) ?_) | (refine Zad (fun w' hw => Zbs A c l (i + 14) 2 w' (hA.up hw) hr (by omega) (by omega)) ?_) | (refine Zad (fun w' hw => Zg3 A c l (i + 12) w' (hA.up hw) hr (by omega) (by omega)) ?_) | (apply Zar (f := 82) (us := []) (cs := [.pointer (some ⟨b5, 0, none⟩)]) (vs := [.int .i64 (i + 9)]) (h := fun w' hw hO => Zke A c l (i + 9) ⟨b5, 0, none⟩ w' (hA.up hw) hr (by omega) (by omega) (ZqN (hO.of (A := .blk b5 _ _) (by repeat' constructor)))); rfl; rfl; rintro v O' ⟨rfl, rfl⟩) | (refine bx ?_; intro bk) | (refine stA ?_)); refine fin ?_) | (refine jn ?_; (try intro F); (first | (refine bx ?_; intro bk) | (refine stA ?_) | (apply Zag; exact PuA)); refine fin ?_) | (apply RD_W; rfl; intro bk))
  exact ⟨rfl, _, SFA, SOA⟩
 rintro fr' O' ⟨b2, hf, hO⟩
 apply thenQ_n
 refine Zcu hf hO ?_
 repeat (first | refine walk ?_ | (refine jg ?_; (try intro F); (first | (refine Zad (fun w' hw => Zbs A c l (i + 2) 4 w' (hA.up hw) hr (by omega) (by omega)) ?_) | (refine bx ?_; intro bk) | (refine stA ?_)); refine fin ?_) | (refine jn ?_; (try intro F); (first | (refine bx ?_; intro bk) | (refine stA ?_) | (apply Zag; exact PuA)); refine fin ?_) | (apply RD_W; rfl; intro bk))
 generalize hra : Zn7 l i a b save = ra
 generalize hrb : Zrp l i a b 0 = rb
 refine Zcu (fr' := [(65, .bool (decide (atB l (i + 2) 4 = 0))), (12, .pointer (some ⟨b1, 0, none⟩)), (13, .pointer (some ⟨b2, 0, none⟩))]) SFA (show SubO [.blk b2 [.string rb.name, .int .i64 rb.from_, .int .i64 rb.to, .int .i64 rb.month, .int .i64 rb.day.kind, .int .i64 rb.day.week, .int .i64 rb.day.day, .int .i64 rb.at_.sec, .int .i64 rb.at_.base, .int .i64 rb.save, .string rb.letter] 56, .blk b1 [.string ra.name, .int .i64 ra.from_, .int .i64 ra.to, .int .i64 ra.month, .int .i64 ra.day.kind, .int .i64 ra.day.week, .int .i64 ra.day.day, .int .i64 ra.at_.sec, .int .i64 ra.at_.base, .int .i64 ra.save, .string ra.letter] 56] _ from SOA) ?_
 refine Zah rfl (fun h => ?_) (fun h => ?_)
 ·have e : Zf8 l i a b save = [⟨ra.name, ra.from_, ra.to, ra.month, ra.day, ra.at_, rb.save, ra.letter⟩, ⟨rb.name, rb.from_, rb.to, rb.month, rb.day, rb.at_, ra.save, rb.letter⟩] := by
   rw [Zf8, if_pos (by simpa using h), <- hra, <- hrb]
   rfl
  rw [e]
  repeat (first | refine walk ?_ | (refine jn ?_; (try intro F); (first | (refine bx ?_; intro bk) | (refine stA ?_) | (apply Zag; exact PuA)); refine fin ?_) | (apply RD_W; rfl; intro bk))
  exact ret_1 _ [.blk bk (List.flatMap DRule.enc [⟨ra.name, ra.from_, ra.to, ra.month, ra.day, ra.at_, rb.save, ra.letter⟩, ⟨rb.name, rb.from_, rb.to, rb.month, rb.day, rb.at_, ra.save, rb.letter⟩]) 56] (.tmp rfl) SOA ⟨_, rfl, rfl⟩
 have e : Zf8 l i a b save = [ra, rb] := by rw [Zf8, if_neg (by simpa using h), <- hra, <- hrb]
 rw [e]
 repeat (first | refine walk ?_ | (refine jn ?_; (try intro F); (first | (refine bx ?_; intro bk) | (refine stA ?_) | (apply Zag; exact PuA)); refine fin ?_) | (apply RD_W; rfl; intro bk))
 exact ret_1 _ [.blk bk (List.flatMap DRule.enc [ra, rb]) 56] (.tmp rfl) SOA ⟨_, rfl, rfl⟩
attribute [local irreducible] Zf8
def Zql (n : Int) : List Value := [.int .i64 n]
theorem Zql.len (n : Int) : (Zql n).length = 1 := rfl
theorem Zp9 (x : ByteArray) : ∀ (l : List DRule) (k : Nat) (r : DRule), l[k]? = some r -> lay (l.flatMap DRule.enc) (k * 11) [.string x] = (l.take k ++ ZcR x r :: l.drop (k + 1)).flatMap DRule.enc
 | [], k, r, h => by simp at h
 | a :: l, 0, r, h => by
  simp only [List.getElem?_cons_zero, Option.some.injEq] at h
  subst h
  simp [lay, ZcR, DRule.enc]
 | a :: l, k + 1, r, h => by
  have ih := Zp9 x l k r (by simpa using h)
  simp only [lay] at ih ⊢
  simp only [List.flatMap_cons, List.take_succ_cons, List.drop_succ_cons, List.cons_append]
  rw [<- ih]
  rw [show (k + 1) * 11 = a.enc.length + k * 11 by rw [DRule.len]; omega, List.set_append_right _ _ (by omega), Nat.add_sub_cancel_left]
theorem ZkH {x : ByteArray} {l : List DRule} {k : Nat} (r : DRule) (hr : l[k]? = some r) : ((l.take k).map (ZcR x) ++ l.drop k)[k]? = some r := by
 have hk := (List.getElem?_eq_some_iff.1 hr).1
 have e : ((l.take k).map (ZcR x)).length = k := by rw [List.length_map, List.length_take]; omega
 rw [List.getElem?_append_right (by omega), e, Nat.sub_self, List.getElem?_drop]
 exact hr
theorem Zrz (x : ByteArray) (l : List DRule) (k : Nat) (r : DRule) (hr : l[k]? = some r) :
  lay (((l.take k).map (ZcR x) ++ l.drop k).flatMap DRule.enc) (k * 11 + 0) [.string x] = ((l.take (k + 1)).map (ZcR x) ++ l.drop (k + 1)).flatMap DRule.enc := by
 have hk := (List.getElem?_eq_some_iff.1 hr).1
 have e : ((l.take k).map (ZcR x)).length = k := by rw [List.length_map, List.length_take]; omega
 rw [Nat.add_zero, Zp9 x _ k r (ZkH r hr), List.take_append_of_le_length (by omega), List.take_of_length_le (by omega)]
 congr 1
 rw [List.drop_append, List.drop_eq_nil_of_le (by omega), e, List.nil_append, List.drop_drop, List.take_add_one, List.map_append, List.append_assoc, hr, show k + (k + 1 - k) = k + 1 by omega]
 rfl
set_option maxHeartbeats 8000000 in
theorem Zon (A : Option Addr) (c : Nat) (l : List Int) (x : ByteArray) (w : World) (hA : RdSl w A c Zdt 1 l) (hr : ∀ x ∈ l, inR .u8 x) :
  Does Tryz.prog 24 [.slice A l.length c, .string x] w (fun v O => ∃ A' c', v = .slice A' (ZbR l x).length c' /\ O = [.row (.slice A' (ZbR l x).length c') 56 11 (ZbR l x).length ((ZbR l x).flatMap DRule.enc)]) := by
 have r0 := Zas l 0 5 (by decide)
 have r1 := Zas l 1 80 (by decide)
 have r3 := Zas l 3 28 (by decide)
 have r6 := Zas l 6 12 (by decide)
 have r8 := Zas l 8 5 (by decide)
 have r9 := Zas l 9 6 (by decide)
 obtain ⟨q1, q2, q3⟩ := Zis l
 obtain ⟨q4, q5, q6⟩ := ZmB l (m1 l).1 (m1 l).2 q1 q2 q3
 have hget : ZgI[(atB l 0 5).toNat]? = some (Zbo l) := by
  have hk : (atB l 0 5).toNat < ZgI.length := by simp only [ZgI, List.length_cons, List.length_nil]; omega
  rw [Zbo, List.getD_eq_getElem?_getD, List.getElem?_eq_getElem hk]
  rfl
 refine Zaa Tryz.func24 rfl rfl rfl rfl ?_
 repeat (first | (apply RL_pu; rfl; (apply Zc1 (v := .int .i64 (Zbo l)); rfl; (intro w' _ hO; exact ((ZrG (c := 5) (l := ZgI) (t := 2) Zql.len (Nat.le_refl 5) (by decide) (hO.of (A := .blk bk (ZgI.flatMap Zql) _) (by repeat' constructor))).rd _ _ hget).2 0 _ rfl))) | (refine js ?_; (first | (refine Zad (fun w' hw => Zbs A c l 0 5 w' (hA.up hw) hr (by omega) (by omega)) ?_) | (refine Zad (fun w' hw => Zbs A c l 1 80 w' (hA.up hw) hr (by omega) (by omega)) ?_) | (refine Zad (fun w' hw => Zbs A c l 2 3 w' (hA.up hw) hr (by omega) (by omega)) ?_) | (refine bx ?_; intro bk))) | refine walk1 ?_)
 refine Zdu 56 11 ?_
 refine Zcm (fun fr' O' => ∃ A' c' n xs, (n = (m1 l).1.length /\ xs = (m1 l).1.flatMap DRule.enc) /\ Sub [(0, .slice A l.length c), (1, .string x), (5, .int .i64 (Zbo l)), (6, .int .i64 (m1 l).2), (7, .slice A' n c')] fr' /\ SubO [.row (.slice A' n c') 56 11 n xs] O') ?_ ?_
 ·refine Zah rfl (fun h => ?_) (fun h => ?_)
  ·have e : m1 l = ([Zy0 l (1900 + atB l 1 80)], 1900 + atB l 1 80 + 1) := by rw [m1, if_pos (by simpa using h)]
   repeat (first | (refine js ?_; (first | (refine Zad (fun w' hw => Zbs A c l 3 28 w' (hA.up hw) hr (by omega) (by omega)) ?_) | (refine Zad (fun w' hw => Zg3 A c l 4 w' (hA.up hw) hr (by omega) (by omega)) ?_) | (apply ZaC; rfl; rfl; (intro A' c'; (focus repeat' constructor)); (intro w' _ hO; exact ZbD (hO.of (by repeat' constructor))); rfl; rfl; (simp only [maxLen]; omega); omega; intro A' c' hc1 hc2 hc3) | (refine bx ?_; intro bk))) | refine walk ?_)
   rw [e]
   exact ⟨rfl, A', c', 0 + 1, [] ++ (Zy0 l (1900 + atB l 1 80)).enc, ⟨rfl, rfl⟩, SFA, SOA⟩
  have e : m1 l = ([], 1900 + atB l 1 80) := by rw [m1, if_neg (by simpa using h)]
  repeat (first | (refine js ?_; (refine bx ?_; intro bk)) | refine walk ?_)
  rw [e]
  exact ⟨rfl, none, 0, 0, [], ⟨rfl, rfl⟩, SFA, SOA⟩
 rintro fr' O' ⟨A1, c1, n1, x1, ⟨hn1, hx1⟩, hf, hO⟩
 apply thenQ_n
 refine Zcu hf hO ?_
 clear hf hO fr' O'
 repeat (first | (refine js ?_; (first | (refine Zad (fun w' hw => Zbs A c l 5 2 w' (hA.up hw) hr (by omega) (by omega)) ?_) | (refine bx ?_; intro bk))) | refine walk ?_)
 rw [ZbR]
 generalize m1 l = g1 at *
 obtain ⟨o1, f1⟩ := g1
 dsimp only at *
 refine Zcm (fun fr' O' => ∃ A' c' n xs, (n = (m2 l o1 f1).1.length /\ xs = (m2 l o1 f1).1.flatMap DRule.enc) /\ Sub [(0, .slice A l.length c), (1, .string x), (5, .int .i64 (Zbo l)), (6, .int .i64 (m2 l o1 f1).2), (7, .slice A' n c')] fr' /\ SubO [.row (.slice A' n c') 56 11 n xs] O') ?_ ?_
 ·refine Zah rfl (fun h => ?_) (fun h => ?_)
  ·have e : m2 l o1 f1 = (o1 ++ Zf8 l 7 f1 (f1 + atB l 6 12) (Zbo l), f1 + atB l 6 12 + 1 + atB l 8 5) := by rw [m2, if_pos (by simpa using h)]
   repeat (first | (refine js ?_; (first | (refine Zad (fun w' hw => Zbs A c l 6 12 w' (hA.up hw) hr (by omega) (by omega)) ?_) | (refine Zad (fun w' hw => Zbs A c l 8 5 w' (hA.up hw) hr (by omega) (by omega)) ?_) | (apply Zac (h := fun w' hw _ => Zih A c l 7 f1 (f1 + atB l 6 12) (Zbo l) w' (hA.up hw) hr (by omega) (by omega)); rfl; rintro v O' ⟨k1, rfl, rfl⟩) | (apply ZaC; rfl; rfl; (intro A' c'; (focus repeat' constructor)); (intro w' _ hO; exact ZbD (hO.of (by repeat' constructor))); (rw [ZaE DRule.len, Zdb]); exact ZcC oneR _; (simp only [maxLen]; omega); omega; intro A' c' hc1 hc2 hc3) | (refine bx ?_; intro bk))) | refine walk ?_)
   rw [e]
   exact ⟨rfl, A', c', n1 + 2, x1 ++ _, ⟨by rw [List.length_append, Zdb, hn1], by rw [List.flatMap_append, hx1]⟩, SFA, SOA⟩
  have e : m2 l o1 f1 = (o1, f1) := by rw [m2, if_neg (by simpa using h)]
  repeat (first | (refine js ?_; (refine bx ?_; intro bk)) | refine walk ?_)
  rw [e]
  exact ⟨rfl, A1, c1, n1, x1, ⟨hn1, hx1⟩, SFA, SOA⟩
 rintro fr' O' ⟨A2, c2, n2, x2, ⟨hn2, hx2⟩, hf, hO⟩
 apply thenQ_n
 refine Zcu hf hO ?_
 clear hf hO fr' O'
 generalize m2 l o1 f1 = g2 at *
 obtain ⟨o2, f2⟩ := g2
 dsimp only at *
 repeat (first | (refine js ?_; (first | (refine Zad (fun w' hw => Zbs A c l 9 6 w' (hA.up hw) hr (by omega) (by omega)) ?_) | (refine Zad (fun w' hw => Zbs A c l 10 3 w' (hA.up hw) hr (by omega) (by omega)) ?_) | (refine bx ?_; intro bk))) | refine walk ?_)
 refine Zcm (fun fr' O' => Sub [(0, .slice A l.length c), (1, .string x), (5, .int .i64 (Zbo l)), (6, .int .i64 f2), (7, .slice A2 n2 c2), (9, .int .i64 (to17 l f2))] fr' /\ SubO [.row (.slice A2 n2 c2) 56 11 n2 x2] O') ?_ ?_
 ·refine Zah rfl (fun h => ?_) (fun h => ?_)
  ·have e : to17 l f2 = 1048576 := by rw [to17, if_pos (by simpa using h)]
   repeat (first | (refine js ?_; (refine bx ?_; intro bk)) | refine walk ?_)
   rw [e]
   exact ⟨rfl, SFA, SOA⟩
  have e : to17 l f2 = f2 + atB l 9 6 := by rw [to17, if_neg (by simpa using h)]
  repeat (first | (refine js ?_; (refine bx ?_; intro bk)) | refine walk ?_)
  rw [e]
  exact ⟨rfl, SFA, SOA⟩
 rintro fr' O' ⟨hf, hO⟩
 apply thenQ_n
 refine Zcu hf hO ?_
 clear hf hO fr' O'
 repeat (first | (refine js ?_; (first | (apply Zac (h := fun w' hw _ => Zih A c l 11 f2 (to17 l f2) (Zbo l) w' (hA.up hw) hr (by omega) (by omega)); rfl; rintro v O' ⟨k1, rfl, rfl⟩) | (apply ZaC; rfl; rfl; (intro A' c'; (focus repeat' constructor)); (intro w' _ hO; exact ZbD (hO.of (by repeat' constructor))); (rw [ZaE DRule.len, Zdb]); exact ZcC oneR _; (simp only [maxLen]; omega); omega; intro A' c' hc1 hc2 hc3) | (refine bx ?_; intro bk))) | refine walk ?_)
 obtain ⟨o3, ho3⟩ : ∃ o3, m3 l o2 f2 = o3 := ⟨_, rfl⟩
 have hx3 : x2 ++ (Zf8 l 11 f2 (to17 l f2) (Zbo l)).flatMap DRule.enc = o3.flatMap DRule.enc := by rw [<- ho3, m3, List.flatMap_append, hx2]
 have hn3 : n2 + 2 = o3.length := by rw [<- ho3, m3, List.length_append, Zdb, hn2]
 have hn5 : o3.length <= 5 := by omega
 rw [ho3, hx3, hn3]
 have hAn : A' ≠ none := hc3 (by omega)
 refine Zaq [(1, .string x), (7, .slice A' o3.length c'), (70, .int .i64 o3.length)] [] (fun k : Nat => [(71, .int .i64 k)]) (fun k => [.row (.slice A' o3.length c') 56 11 o3.length (((o3.take k).map (ZcR x) ++ o3.drop k).flatMap DRule.enc)]) (fun k => k <= o3.length) (fun k => o3.length - k) 0 SFA SOA (Nat.zero_le _) ?_
 intro k hk
 repeat (first | (refine js ?_; (refine bx ?_; intro bk)) | refine walk ?_)
 refine Zah rfl (fun h => ?_) (fun h => ?_)
 ·have hk2 : k < o3.length := by simpa using h
  have hll : (((o3.take k).map (ZcR x) ++ o3.drop k).flatMap DRule.enc).length = o3.length * 11 := by
   rw [ZaE DRule.len, List.length_append, List.length_map, List.length_take, List.length_drop, Nat.min_eq_left hk]
   congr 1; omega
  repeat (first | (apply RL_pu; rfl; (first | (apply Pu_indexAddr; rfl; rfl; omega; omega; exact hAn) | (apply ZlB; rfl))) | (refine js ?_; (first | (apply Zc5; rfl; rfl; (focus repeat' constructor); rfl; rfl; rfl; (rw [hll]; omega); decide; exact Zrz x o3 k _ (List.getElem?_eq_getElem hk2)) | (refine bx ?_; intro bk))) | refine walk1 ?_)
  exact ⟨k + 1, OA, OA, SFA, SOA⟩
 have hk2 : k = o3.length := by simp only [decide_eq_false_iff_not] at h; omega
 subst hk2
 repeat (first | (refine js ?_; (refine bx ?_; intro bk)) | refine walk ?_)
 have e : (o3.take o3.length).map (ZcR x) ++ o3.drop o3.length = o3.map (ZcR x) := by rw [List.take_length, List.drop_length, List.append_nil]
 rw [e]
 refine ret_1 _ [.row (.slice A' (o3.map (ZcR x)).length c') 56 11 (o3.map (ZcR x)).length ((o3.map (ZcR x)).flatMap DRule.enc)] (.tmp (v := .slice A' (o3.map (ZcR x)).length c') (by rw [List.length_map]; rfl)) (by rw [List.length_map]; exact SOA) ⟨A', c', rfl, rfl⟩
end Go.Proofs.YtbjomhdhkpgbaaaGreatDoor
namespace Go.Proofs.YtbjomhdhkpgbaaaGreatDoor
open Go Go.RowKit Go.Wk Go.ChangeShapes Go.WideShapes Go.ChangeAt
structure _root_.Go.Wk.E23 where
 mk ::
 kind : Int
 set : Int
 format : Int
 years : Int
 day : Int
 base : Int
 off : Int
 at_ : Int
 deriving DecidableEq
def _root_.Go.Wk.E23.enc (d : E23) : List Value := [.int .u8 d.kind, .int .u8 d.set, .int .u8 d.format, .int .u8 d.years, .int .u8 d.day, .int .u8 d.base, .int .i8 d.off, .int .i8 d.at_]
section
variable {H : Type} {enc : TypeId × Value -> H} {w : World} {sp : Nat -> Bool} {held : Bool}
def _root_.Go.Wk.DDay.ok (d : DDay) : Prop := inR .i64 d.kind /\ inR .i64 d.week /\ inR .i64 d.day
def _root_.Go.Wk.DClock.ok (d : DClock) : Prop := inR .i64 d.sec /\ inR .i64 d.base
def _root_.Go.Wk.DRule.ok (d : DRule) : Prop := d.name.size <= maxLen /\ inR .i64 d.from_ /\ inR .i64 d.to /\ inR .i64 d.month /\ DDay.ok d.day /\ DClock.ok d.at_ /\ inR .i64 d.save /\ d.letter.size <= maxLen
def _root_.Go.Wk.DUntil.ok (d : DUntil) : Prop := inR .i64 d.year /\ inR .i64 d.month /\ DDay.ok d.day /\ DClock.ok d.at_
def _root_.Go.Wk.DEra.ok (d : DEra) : Prop := inR .i64 d.off /\ inR .i64 d.kind /\ inR .i64 d.save /\ d.set.size <= maxLen /\ d.format.size <= maxLen /\ DUntil.ok d.til
def _root_.Go.Wk.DLink.ok (d : DLink) : Prop := d.target.size <= maxLen /\ d.name.size <= maxLen
def _root_.Go.Wk.E23.ok (d : E23) : Prop := inR .u8 d.kind /\ inR .u8 d.set /\ inR .u8 d.format /\ inR .u8 d.years /\ inR .u8 d.day /\ inR .u8 d.base /\ inR .i8 d.off /\ inR .i8 d.at_
theorem ZAf {n : Nat} {cs : List Value} {y : DataW H × List MemPlace} (h : DataW.trod enc Tryz.prog w 0 sp held n 89 cs = some y) : ∃ d : E23, cs = d.enc /\ d.ok := by
 obtain ⟨hl, hf⟩ := Zqt Tryz.underlying89 h
 rw [show Tryz.prog.cellsOf 89 = 8 from by kernel_rfl] at hl
 have c5 : Tryz.prog.cellsOf 5 = 1 := by kernel_rfl
 have c87 : Tryz.prog.cellsOf 87 = 1 := by kernel_rfl
 obtain ⟨a0, cs0, rfl, hl0⟩ := Zbn hl
 obtain ⟨a1, cs1, rfl, hl1⟩ := Zbn hl0
 obtain ⟨a2, cs2, rfl, hl2⟩ := Zbn hl1
 obtain ⟨a3, cs3, rfl, hl3⟩ := Zbn hl2
 obtain ⟨a4, cs4, rfl, hl4⟩ := Zbn hl3
 obtain ⟨a5, cs5, rfl, hl5⟩ := Zbn hl4
 obtain ⟨a6, cs6, rfl, hl6⟩ := Zbn hl5
 obtain ⟨a7, cs7, rfl, hl7⟩ := Zbn hl6
 obtain rfl := List.eq_nil_of_length_eq_zero hl7
 obtain ⟨n0, y0, h0⟩ := hf 0 5 0 1 rfl c5
 obtain ⟨x0, e0, _, b0⟩ := DataW.trod_int Tryz.underlying5 h0
 injection e0 with e0 _
 subst e0
 obtain ⟨n1, y1, h1⟩ := hf 1 5 1 1 rfl c5
 obtain ⟨x1, e1, _, b1⟩ := DataW.trod_int Tryz.underlying5 h1
 injection e1 with e1 _
 subst e1
 obtain ⟨n2, y2, h2⟩ := hf 2 5 2 1 rfl c5
 obtain ⟨x2, e2, _, b2⟩ := DataW.trod_int Tryz.underlying5 h2
 injection e2 with e2 _
 subst e2
 obtain ⟨n3, y3, h3⟩ := hf 3 5 3 1 rfl c5
 obtain ⟨x3, e3, _, b3⟩ := DataW.trod_int Tryz.underlying5 h3
 injection e3 with e3 _
 subst e3
 obtain ⟨n4, y4, h4⟩ := hf 4 5 4 1 rfl c5
 obtain ⟨x4, e4, _, b4⟩ := DataW.trod_int Tryz.underlying5 h4
 injection e4 with e4 _
 subst e4
 obtain ⟨n5, y5, h5⟩ := hf 5 5 5 1 rfl c5
 obtain ⟨x5, e5, _, b5⟩ := DataW.trod_int Tryz.underlying5 h5
 injection e5 with e5 _
 subst e5
 obtain ⟨n6, y6, h6⟩ := hf 6 87 6 1 rfl c87
 obtain ⟨x6, e6, _, b6⟩ := DataW.trod_int Tryz.underlying87 h6
 injection e6 with e6 _
 subst e6
 obtain ⟨n7, y7, h7⟩ := hf 7 87 7 1 rfl c87
 obtain ⟨x7, e7, _, b7⟩ := DataW.trod_int Tryz.underlying87 h7
 injection e7 with e7 _
 subst e7
 exact ⟨⟨x0, x1, x2, x3, x4, x5, x6, x7⟩, rfl, Zfx b0, Zfx b1, Zfx b2, Zfx b3, Zfx b4, Zfx b5, Zfx b6, Zfx b7⟩
end
end Go.Proofs.YtbjomhdhkpgbaaaGreatDoor
namespace Go.Wk
open Go Go.RowKit
section
variable {P : Program} {n : Nat} {wr : World} {fr : Fr} {O : List It} {ty : TypeId}
theorem Zvc {t : TypeId} {x y z : Operand} {s : ByteArray} {k k' : IntKind} {i j : Int} [hS : StringT P t] (hx : ev fr x = some (.string s)) (hy : ev fr y = some (.int k i)) (hz : ev fr z = some (.int k' j)) (h0 : 0 <= i) (h1 : i <= j) (h2 : j <= s.size) :
  Pu P n wr fr O (.slice t x (some y) (some z) none) ty (.string (s.extract i.toNat j.toNat)) := fun a w hs _ _ _ _ => by
 have h := run_slice_string (P := P) w t s k k' i j hS.h h0 h1 h2
 simp [execOp, hs.sim.ev hx, hs.sim.ev hy, hs.sim.ev hz, Instr.sliceAt, run_underlying hS.h, h]
end
end Go.Wk
namespace Go.Proofs.YtbjomhdhkpgbaaaGreatDoor
open Go Go.RowKit Go.Wk
attribute [local irreducible] W RL Does Zap Zak retQ Calls Pu Stp RD Qy Ay Zal
def Zm1 : ByteArray := ⟨#[48, 49, 50, 51, 52, 53, 54, 55, 56, 57, 97, 98, 99, 100, 101, 102, 103, 104, 105, 106, 107, 108, 109, 110, 111, 112, 113, 114, 115, 116, 117, 118, 119, 120, 121, 122]⟩
def dig (i : Int) : ByteArray := Zm1.extract i.toNat (i + 1).toNat
theorem ZnZ (i : Int) (h0 : 0 <= i) (h1 : i < 10) (w : World) : Does Tryz.prog 118 [.int .i64 i] w (fun v O => v = .string (dig i) /\ O = []) := by
 refine Zaa Tryz.func118 rfl rfl rfl rfl ?_
 repeat (first | refine walk ?_)
 refine Zah rfl (fun h => ?_) (fun h => absurd h (by simp; omega))
 repeat (first | (apply RL_pu; rfl; (apply Zvc; rfl; rfl; rfl; omega; omega; (show i + 1 <= ((36 : Nat) : Int); omega))) | refine walk1 ?_)
 exact rtA
theorem ZjA (i : Int) (h0 : 0 <= i) (h1 : i < 10) (w : World) : Does Tryz.prog 83 [.int .i64 i, .int .i64 10] w (fun v O => v = .string (dig i) /\ O = []) := by
 refine Zaa Tryz.func83 rfl rfl rfl rfl ?_
 repeat (first | (refine js ?_; (refine bx ?_; intro bk)) | refine walk ?_)
 refine Zcf 14 rfl (fun _ => ?_) (fun h => absurd h (by simp; omega))
 repeat (first | (refine js ?_; (refine bx ?_; intro bk)) | refine walk ?_)
 refine Zah rfl (fun h => ?_) (fun h => absurd h (by simp; omega))
 repeat (first | (refine js ?_; (first | (refine Zad (fun w' _ => ZnZ i h0 h1 w') ?_) | (refine bx ?_; intro bk))) | refine walk ?_)
 exact rtA
theorem ZrP (i : Int) (h0 : 0 <= i) (h1 : i < 10) (w : World) : Does Tryz.prog 47 [.int .i64 i] w (fun v O => v = .string (dig i) /\ O = []) := by
 refine Zaa Tryz.func47 rfl rfl rfl rfl ?_
 repeat (first | (refine js ?_; (refine Zad (fun w' _ => ZjA i h0 h1 w') ?_)) | refine walk ?_)
 exact rtA
theorem Zdh (i : Int) (h0 : 0 <= i) (h1 : i < 10) (w : World) : Does Tryz.prog 25 [.int .i64 i] w (fun v O => v = .string (dig i) /\ O = []) := by
 refine Zaa Tryz.func25 rfl rfl rfl rfl ?_
 repeat (first | (refine js ?_; (refine Zad (fun w' _ => ZrP i h0 h1 w') ?_)) | refine walk ?_)
 exact rtA
def Zj8 : List ByteArray := [⟨#[76, 77, 84]⟩, ⟨#[71, 77, 84, 47, 66, 83, 84]⟩, ⟨#[69, 37, 115, 83, 84]⟩, ⟨#[37, 122]⟩, ⟨#[67, 69, 84, 47, 67, 69, 83, 84]⟩, ⟨#[87, 83, 84]⟩]
def ZgV (n : Int) : ByteArray := Zj8.getD (n % 6).toNat ByteArray.empty
theorem Zk6 (n : Int) (h0 : 0 <= n) (w : World) : Does Tryz.prog 48 [.int .u8 n] w (fun v O => v = .string (ZgV n) /\ O = []) := by
 have hm0 := Int.emod_nonneg n (b := 6) (by decide)
 have hm1 := Int.emod_lt_of_pos n (b := 6) (by decide)
 have hget : Zj8[(n % 6).toNat]? = some (ZgV n) := by
  have hk : (n % 6).toNat < Zj8.length := by simp only [Zj8, List.length_cons, List.length_nil]; omega
  rw [ZgV, List.getD_eq_getElem?_getD, List.getElem?_eq_getElem hk]
  rfl
 refine Zaa Tryz.func48 rfl rfl rfl rfl ?_
 repeat (first | (apply RL_pu; rfl; (apply Zc1 (v := .string (ZgV n)); rfl; (intro w' _ hO; exact ((ZrG (c := 6) (l := Zj8) (t := 9) ZaI.len (Nat.le_refl 6) (by decide) (hO.of (A := .blk bk (Zj8.flatMap ZaI) _) (by repeat' constructor))).rd _ _ hget).2 0 _ rfl))) | (refine js ?_; (refine bx ?_; intro bk)) | refine walk1 ?_)
 exact rtA
theorem ZlV (y m d : Int) (w : World) : Does Tryz.prog 49 [.int .i64 y, .int .i64 m, .int .i64 d] w (fun v O => v = .agg #[.bool true, .int .i64 y, .int .i64 m, .int .i64 1, .int .i64 0, .int .i64 d, .int .i64 0, .int .i64 0] /\ O = []) := by
 refine Zaa Tryz.func49 rfl rfl rfl rfl ?_
 repeat (first | (refine js ?_; (refine bx ?_; intro bk)) | refine walk ?_)
 exact ret_1 _ [] (.cellB rfl (by repeat' constructor) rfl rfl) .nil ⟨rfl, rfl⟩
end Go.Proofs.YtbjomhdhkpgbaaaGreatDoor
