/- Plain law: zones of drafts have few pairs (layer 25). Plain law: drafts of layer 25 are accepted: no fault of any kind. Plain law: the abbreviations of drafts: there is one, of 3 to 7 bytes. Plain law: the names of a draft: each once, and each stands for a zone. Plain law: the forms of drafts (layer 24), and drafts with a shifted set. -/
import Derived.Test.YtbjkhnlnedfceaaGreatDoorU11
set_option maxHeartbeats 4000000
set_option linter.unusedVariables false
set_option linter.unusedSimpArgs false
namespace Go.Proofs.YtbjkhnlnedfceaaGreatDoor
open Go Go.RowKit Go.Wk
theorem dig2_len' (n : Int) : (dig2 n).length = 2 := rfl
theorem textN_len' (x : Int) : (textN x).length ≤ 7 := by
 unfold textN
 split
 ·exact Nat.zero_le _
 ·simp only [List.length_cons, List.length_append, dig2_len']
  have h : ∀ (c : Prop) [Decidable c] (n : Int), (if c then ([] : List UInt8) else dig2 n).length ≤ 2 := fun c _ n => by
   split
   ·exact Nat.zero_le _
   ·exact Nat.le_refl _
  have h1 := h
  generalize ha : (if (if x < 0 then -x else x) % 3600 = 0 then ([] : List UInt8) else dig2 ((if x < 0 then -x else x) / 60 % 60)) = a
  generalize hb : (if (if x < 0 then -x else x) % 60 = 0 then ([] : List UInt8) else dig2 ((if x < 0 then -x else x) % 60)) = b
  have h2 : a.length ≤ 2 := by rw [← ha]; exact h _ _
  have h3 : b.length ≤ 2 := by rw [← hb]; exact h _ _
  omega
theorem fmtsL_parts : ∀ f ∈ fmtsL, (match partsF f with | none => decide (kindF f = 1) && decide (f.length ≤ 7) | some (a, b) => decide (a.length ≤ 7) && decide (b.length ≤ 7)) = true := by decide +kernel
theorem fmtsS_parts : (∀ f ∈ fmtsS, partsF f = none) ∧ partsF [37, 122] = none := by decide +kernel
theorem abbr_len {f : ByteArray} (h : f ∈ fmtU) (off save : Int) (x : List UInt8) : (abbrF f.data.toList off save x).1.length ≤ 7 := by
 rcases fmt_cases h with h | h | h
 ·have hp := fmtsL_parts _ h
  unfold abbrF
  cases hq : partsF f.data.toList with
  | none =>
   rw [hq] at hp
   simp at hp
   dsimp only
   rw [hp.1, if_neg (by decide), if_neg (by decide), if_pos (.inl rfl)]
   rw [Array.length_toList]
   exact hp.2
  | some ab =>
   obtain ⟨a, b⟩ := ab
   rw [hq] at hp
   simp at hp
   dsimp only
   split
   ·exact hp.1
   ·exact hp.2
 ·obtain ⟨hk, _⟩ := fmts_kind.2.1 _ h
  unfold abbrF
  rw [fmtsS_parts.1 _ h, hk]
  dsimp only
  rw [if_pos rfl]
  cases aroundF f.data.toList with
  | none => exact Nat.zero_le _
  | some ab =>
   obtain ⟨a, b⟩ := ab
   dsimp only
   split
   ·rename_i hh
    unfold abbrL nameB at hh
    simp only [Bool.and_eq_true, decide_eq_true_eq] at hh
    dsimp only
    omega
   ·exact Nat.zero_le _
 ·unfold abbrF
  rw [h, fmtsS_parts.2, fmts_kind.2.2]
  dsimp only
  rw [if_neg (by decide), if_pos rfl]
  split
  ·exact textN_len' _
  ·exact Nat.zero_le _
theorem sizeA_snoc' (x : List UInt8) : ∀ l, sizeA (l ++ [x]) = sizeA l + x.length + 1
 | [] => by simp [sizeA]
 | y :: l => by rw [List.cons_append, sizeA, sizeA_snoc' x l, sizeA]; omega
theorem addP_len' (x : Int × List UInt8) (l : List (Int × List UInt8)) : (addP x l).length ≤ l.length + 1 := by
 unfold addP
 split
 ·omega
 ·rw [List.length_append]; exact Nat.le_refl _
theorem addA_size (x : List UInt8) (l : List (List UInt8)) : sizeA (addA x l) ≤ sizeA l + x.length + 1 := by
 unfold addA
 split
 ·omega
 ·rw [sizeA_snoc']; exact Nat.le_refl _
theorem stGo_len {e : DEra} (he : e.format ∈ fmtU) : ∀ (l : List (Int × ByteArray)) (acc : List (Int × List UInt8) × List (List UInt8)), (stGo e l acc).1.length ≤ acc.1.length + l.length ∧ sizeA (stGo e l acc).2 ≤ sizeA acc.2 + 8 * l.length
 | [], acc => by simp [stGo]
 | x :: l, acc => by
  have h1 := addP_len' (e.off + x.1, (abbrF e.format.data.toList e.off x.1 x.2.data.toList).1) acc.1
  have h2 := addA_size (abbrF e.format.data.toList e.off x.1 x.2.data.toList).1 acc.2
  have h3 := abbr_len he e.off x.1 x.2.data.toList
  have h4 := stGo_len he l (addP (e.off + x.1, (abbrF e.format.data.toList e.off x.1 x.2.data.toList).1) acc.1, addA (abbrF e.format.data.toList e.off x.1 x.2.data.toList).1 acc.2)
  rw [stGo]
  dsimp only at h4 ⊢
  rw [List.length_cons]
  omega
theorem erGo_len (rs : List DRule) : ∀ (l : List DEra) (acc : List (Int × List UInt8) × List (List UInt8)), (∀ e ∈ l, ∃ b, DrEra rs e b) → (erGo rs l acc).1.length ≤ acc.1.length + 5 * l.length ∧ sizeA (erGo rs l acc).2 ≤ sizeA acc.2 + 40 * l.length
 | [], acc, _ => by simp [erGo]
 | e :: l, acc, h => by
  obtain ⟨b, hb⟩ := h e List.mem_cons_self
  have h1 := stGo_len hb.fmt (statesOf rs e) acc
  have h2 := erGo_len rs l (stGo e (statesOf rs e) acc) fun x hx => h x (List.mem_cons_of_mem _ hx)
  have h3 := hb.states.1
  rw [erGo, List.length_cons]
  omega
theorem DrEras.few {rs : List DRule} {z : DZone} {Y : Nat → Int} (h : DrEras rs z.eras Y) : fewB25 rs z = true := by
 have h1 := erGo_len rs z.eras ([], []) fun e he => by
  obtain ⟨k, hk, rfl⟩ := List.mem_iff_getElem.1 he
  exact ⟨_, h.era k _ (List.getElem?_eq_getElem hk)⟩
 have h2 := h.len
 unfold fewB25
 have e0 : sizeA [] = 0 := rfl
 rw [e0] at h1
 simp only [List.length_nil] at h1
 rw [decide_eq_true (by omega), decide_eq_true (by omega)]
 rfl
theorem zonesGo_none {rs : List DRule} : ∀ (l : List DZone) (i : Nat), (∀ z ∈ l, ∃ Y, DrEras rs z.eras Y) → zonesGo rs l i = none
 | [], _, _ => rfl
 | z :: l, i, h => by
  obtain ⟨Y, hz⟩ := h z List.mem_cons_self
  have hn : z.eras ≠ [] := fun hh => by
   have := hz.len
   rw [hh] at this
   simp at this
  rw [zonesGo, if_neg hn, hz.go i z.eras.length 0 (by omega)]
  dsimp only
  rw [if_neg (by rw [hz.few]; decide)]
  exact zonesGo_none l (i + 1) fun x hx => h x (List.mem_cons_of_mem _ hx)
theorem era25_dr (rs : List DRule) (L : List Int) (made : Nat) (n : Int) (k : Nat) (hs : ∀ j, j < made → DrSet (ofB rs (setN25.getD j ByteArray.empty)) ∧ (ofB rs (setN25.getD j ByteArray.empty)).length ≤ 5) :
  DrEra rs (era25 L made n k).1 (decide (k = 0)) ∧ (era25 L made n k).1.til = noTil := by
 have p1 := pk_range L n 53 (by decide)
 have p2 := pk_range L (n + 1) 4 (by decide)
 have f25 : ∀ x : Int, 0 ≤ x → x < 4 → fmt25.getD x.toNat ByteArray.empty ∈ fmtU := fun x h0 h1 => by
  have hc : x = 0 ∨ x = 1 ∨ x = 2 ∨ x = 3 := by omega
  rcases hc with rfl | rfl | rfl | rfl
  ·exact .head _
  ·exact .tail _ (.head _)
  ·exact .tail _ (.tail _ (.head _))
  ·exact .tail _ (.tail _ (.tail _ (.head _)))
 have f21 : ∀ x : Int, 0 ≤ x → x < 4 → fmt21.getD x.toNat ByteArray.empty ∈ fmtU := fun x h0 h1 => by
  have hc : x = 0 ∨ x = 1 ∨ x = 2 ∨ x = 3 := by omega
  rcases hc with rfl | rfl | rfl | rfl
  ·exact .head _
  ·exact .tail _ (.tail _ (.tail _ (.tail _ (.head _))))
  ·exact .tail _ (.tail _ (.tail _ (.tail _ (.tail _ (.head _)))))
  ·exact .tail _ (.tail _ (.tail _ (.head _)))
 unfold era25
 split
 ·rename_i hc
  have p3 := pk_range L (n + 1 + 1 + 1) made (by omega)
  have p4 := pk_range L (n + 1 + 1 + 1 + 1) 49 (by decide)
  have p5 := pk_range L (n + 1 + 1 + 1 + 1 + 1) 4 (by decide)
  obtain ⟨h1, h2⟩ := hs (pk L (n + 1 + 1 + 1) made).toNat (by omega)
  refine ⟨.inr (.inr ⟨rfl, by rw [decide_eq_false (by omega)], rfl, ?_, ?_, f21 _ p5.1 p5.2, h1, h2⟩), rfl⟩
  ·show -43200 ≤ (pk L (n + 1 + 1 + 1 + 1) 49 - 24) * 1800; omega
  ·show (pk L (n + 1 + 1 + 1 + 1) 49 - 24) * 1800 ≤ 43200; omega
 ·split
  ·have p3 := pk_range L (n + 1 + 1 + 1) 4 (by decide)
   refine ⟨.inr (.inl ⟨rfl, ⟨?_, ?_⟩, rfl, ?_, ?_, f25 _ p2.1 p2.2⟩), rfl⟩
   ·show 1800 ≤ (1 + pk L (n + 1 + 1 + 1) 4) * 1800; omega
   ·show (1 + pk L (n + 1 + 1 + 1) 4) * 1800 ≤ 7200; omega
   ·show -46800 ≤ (pk L n 53 - 26) * 1800; omega
   ·show (pk L n 53 - 26) * 1800 ≤ 46800; omega
  ·refine ⟨.inl ⟨rfl, rfl, rfl, ?_, ?_, f25 _ p2.1 p2.2⟩, rfl⟩
   ·show -46800 ≤ (pk L n 53 - 26) * 1800; omega
   ·show (pk L n 53 - 26) * 1800 ≤ 46800; omega
theorem eras25_dr (rs : List DRule) (L : List Int) (made : Nat) (n : Int) (hs : ∀ j, j < made → DrSet (ofB rs (setN25.getD j ByteArray.empty)) ∧ (ofB rs (setN25.getD j ByteArray.empty)).length ≤ 5) :
  ∀ (c k : Nat) (e : DEra), (eras25 L made n c).1[k]? = some e → DrEra rs e (decide (k = 0)) ∧ e.til = noTil
 | 0, k, e, h => by simp [eras25] at h
 | c + 1, k, e, h => by
  have hl := (eras25_rng L made n c).1
  simp only [eras25] at h
  rcases Nat.lt_trichotomy k c with hk | hk | hk
  ·rw [List.getElem?_append_left (by omega)] at h
   exact eras25_dr rs L made n hs c k e h
  ·rw [List.getElem?_append_right (by omega), hl, hk, Nat.sub_self] at h
   simp only [List.getElem?_cons_zero, Option.some.injEq] at h
   subst h hk
   exact era25_dr rs L made _ k hs
  ·rw [List.getElem?_eq_none (by simp; omega)] at h
   cases h
theorem DrEra.til {rs : List DRule} {e : DEra} {b : Bool} (h : DrEra rs e b) (u : DUntil) : DrEra rs (setTil u e) b := h
theorem tils25_get (L : List Int) (n y : Int) (es : List DEra) : ∀ (c k : Nat) (e : DEra), c ≤ es.length → (tils25 L n y es c).1[k]? = some e →
  ∃ e', es[k]? = some e' ∧ e = (if k < c then setTil (til25 L (n + 4 * k) (tils25 L n y es (k + 1)).2) e' else e')
 | 0, k, e, _, h => ⟨e, h, by rw [if_neg (by omega)]⟩
 | c + 1, k, e, hc, h => by
  have hl := tils25_len L n y es c
  simp only [tils25] at h
  by_cases hk : k = c
  ·subst hk
   rw [List.getElem?_set_self (by omega)] at h
   obtain ⟨e', h1, h2⟩ := getD_of (l := (tils25 L n y es k).1) (k := k) (d := eraZ) (by omega)
   obtain ⟨e'', h3, h4⟩ := tils25_get L n y es k k e' (by omega) h1
   rw [if_neg (by omega)] at h4
   refine ⟨e'', h3, ?_⟩
   rw [if_pos (by omega), ← Option.some.inj h, h2, h4]
   rfl
  ·rw [List.getElem?_set_ne (fun hh => hk hh.symm)] at h
   obtain ⟨e', h1, h2⟩ := tils25_get L n y es c k e (by omega) h
   refine ⟨e', h1, ?_⟩
   rw [h2]
   by_cases hkc : k < c
   ·rw [if_pos hkc, if_pos (by omega)]
   ·rw [if_neg hkc, if_neg (by omega)]
theorem zone25_dr (rs : List DRule) (L : List Int) (made : Nat) (n : Int) (i : Nat) (hs : ∀ j, j < made → DrSet (ofB rs (setN25.getD j ByteArray.empty)) ∧ (ofB rs (setN25.getD j ByteArray.empty)).length ≤ 5) :
  ∃ Y, DrEras rs (zone25 L made n i).1.eras Y := by
 obtain ⟨c1, c2⟩ := cnt25_rng L n
 have p0 := pk_range L n 60 (by decide)
 have hy0 : 1860 ≤ 1860 + pk L n 60 ∧ 1860 + pk L n 60 ≤ 1919 := by omega
 have hl := (eras25_rng L made (n + 1 + 1) (cnt25 L n)).1
 have hE := eras25_dr rs L made (n + 1 + 1) hs (cnt25 L n)
 show ∃ Y, DrEras rs (tils25 L (eras25 L made (n + 1 + 1) (cnt25 L n)).2 (1860 + pk L n 60) (eras25 L made (n + 1 + 1) (cnt25 L n)).1 (cnt25 L n - 1)).1 Y
 generalize (eras25 L made (n + 1 + 1) (cnt25 L n)).2 = N at *
 generalize (eras25 L made (n + 1 + 1) (cnt25 L n)).1 = es at *
 generalize 1860 + pk L n 60 = y at *
 generalize cnt25 L n = c at *
 have hlen := tils25_len L N y es (c - 1)
 refine ⟨fun k => (tils25 L N y es (k + 1)).2, by omega, fun k e he => ?_, fun k hk => ?_, fun k hk => ?_, fun k e he => ?_⟩
 ·obtain ⟨e', h1, h2⟩ := tils25_get L N y es (c - 1) k e (by omega) he
  rw [h2]
  split
  ·exact (hE k e' h1).1.til _
  ·exact (hE k e' h1).1
 ·have := tils25_year L N y es (k + 1)
  omega
 ·have := pk_range L (N + 4 * (k + 1 : Nat)) 40 (by decide)
  rw [show (tils25 L N y es (k + 1 + 1)).2 = (tils25 L N y es (k + 1)).2 + (1 + pk L (N + 4 * (k + 1 : Nat)) 40) from rfl]
  omega
 ·obtain ⟨e', h1, h2⟩ := tils25_get L N y es (c - 1) k e (by omega) he
  rw [h2]
  by_cases hk : k < c - 1
  ·rw [if_pos (by omega), if_pos hk]
   have q1 := pk_range L (N + 4 * k + 1) 20 (by decide)
   have q2 := pk_range L (N + 4 * k + 1 + 1) 49 (by decide)
   have q3 := pk_range L (N + 4 * k + 1 + 1 + 1) 3 (by decide)
   exact .inl ⟨_, _, _, rfl, by omega, by omega, by omega, by omega, by omega, by omega⟩
  ·rw [if_neg (by omega), if_neg hk]
   exact (hE k e' h1).2
def bare' (z : DZone) : DZone := ⟨z.name, []⟩
def bareS (s : DSource) : DSource := ⟨[], s.zones.map bare', s.links, []⟩
theorem firstZ_bare (x : ByteArray) : ∀ (l : List DZone) (k : Nat), firstZ x (l.map bare') k = firstZ x l k
 | [], _ => rfl
 | z :: l, k => by rw [List.map_cons, firstZ, firstZ, firstZ_bare x l (k + 1)]; rfl
theorem zoneFault_bare (s : DSource) : ∀ (l : List DZone) (i : Nat), zoneFault (bareS s) (l.map bare') i = zoneFault s l i
 | [], _ => rfl
 | z :: l, i => by
  rw [List.map_cons, zoneFault, zoneFault, zoneFault_bare s l (i + 1), show (bareS s).zones = s.zones.map bare' from rfl, firstZ_bare]
  rfl
theorem linkFault_bare (s : DSource) : ∀ (l : List DLink) (i : Nat), linkFault (bareS s) l i = linkFault s l i
 | [], _ => rfl
 | z :: l, i => by
  rw [linkFault, linkFault, linkFault_bare s l (i + 1), show (bareS s).zones = s.zones.map bare' from rfl, firstZ_bare, firstZ_bare]
  rfl
theorem followD_bare (s : DSource) : ∀ (f : Nat) (seen : List ByteArray) (x : ByteArray), followD (bareS s) f seen x = followD s f seen x
 | 0, _, _ => rfl
 | f + 1, seen, x => by
  rw [followD, followD, show (bareS s).zones = s.zones.map bare' from rfl, firstZ_bare, show (bareS s).links = s.links from rfl]
  simp only [followD_bare s f]
theorem loopFault_bare (s : DSource) : ∀ (l : List DLink) (i : Nat), loopFault (bareS s) l i = loopFault s l i
 | [], _ => rfl
 | z :: l, i => by
  rw [loopFault, loopFault, loopFault_bare s l (i + 1), followD_bare]
  rfl
theorem linksD_bare (s : DSource) : linksD s = linksD (bareS s) := by
 unfold linksD
 rw [show (bareS s).zones = s.zones.map bare' from rfl, show (bareS s).links = s.links from rfl, zoneFault_bare, linkFault_bare, loopFault_bare]
def lkT (nz c i : Nat) : ByteArray := if c < nz then zoneN25.getD c ByteArray.empty else linkN25.getD (i - 1) ByteArray.empty
def lks (nz : Nat) (c : Nat → Nat) : Nat → List DLink
 | 0 => []
 | i + 1 => lks nz c i ++ [⟨lkT nz (c i) i, linkN25.getD i ByteArray.empty⟩]
def zns : Nat → List DZone
 | 0 => []
 | i + 1 => zns i ++ [⟨zoneN25.getD i ByteArray.empty, []⟩]
def ch3 (a b c : Nat) (i : Nat) : Nat := match i with | 0 => a | 1 => b | _ => c
theorem links_all : ∀ nz : Fin 4, ∀ nl : Fin 4, ∀ a b c : Fin 4, a.val < nz.val → linksD ⟨[], zns nz.val, lks nz.val (ch3 a.val b.val c.val) nl.val, []⟩ = none := by decide +kernel
theorem links_none : linksD ⟨[], [], [], []⟩ = none := by decide
theorem lks_congr (nz : Nat) (c c' : Nat → Nat) : ∀ n, (∀ i, i < n → c i = c' i) → lks nz c n = lks nz c' n
 | 0, _ => rfl
 | n + 1, h => by rw [lks, lks, lks_congr nz c c' n fun i hi => h i (by omega), h n (by omega)]
theorem zns_get : ∀ (n k : Nat), k < n → (zns n)[k]? = some ⟨zoneN25.getD k ByteArray.empty, []⟩
 | 0, k, h => by omega
 | n + 1, k, h => by
  have hl : ∀ n, (zns n).length = n := fun n => by
   induction n with
   | zero => rfl
   | succ n ih => rw [zns, List.length_append, ih]; rfl
  rw [zns]
  by_cases hk : k < n
  ·rw [List.getElem?_append_left (by rw [hl]; omega)]
   exact zns_get n k hk
  ·have : k = n := by omega
   subst this
   rw [List.getElem?_append_right (by rw [hl]; omega), hl, Nat.sub_self]
   rfl
theorem zones25_bare (L : List Int) (made : Nat) : ∀ i, (zones25 L made i).1.map bare' = zns i
 | 0 => rfl
 | i + 1 => by
  simp only [zones25]
  rw [List.map_append, zones25_bare L made i, zns]
  rfl
theorem links25_lks (L : List Int) (zs : List DZone) (nz : Nat) (hz : zs.map bare' = zns nz) (h0 : 0 < nz) (h3 : nz ≤ 3) (n : Int) : ∀ i : Nat, ∃ c : Nat → Nat, (∀ k, c k < 4) ∧ c 0 < nz ∧ (links25 L zs n i).1 = lks nz c i
 | 0 => ⟨fun _ => 0, fun _ => (by show (0 : Nat) < 4; exact Nat.zero_lt_succ 3), h0, rfl⟩
 | i + 1 => by
  obtain ⟨c, h1, h2, h4⟩ := links25_lks L zs nz hz h0 h3 n i
  have hlen : zs.length = nz := by
   have := congrArg List.length hz
   rw [List.length_map] at this
   rw [this]
   clear hz h0 h3 this h2 h4
   induction nz with
   | zero => rfl
   | succ n ih => rw [zns, List.length_append, ih]; rfl
  have p := pk_range L (links25 L zs n i).2 zs.length (by omega)
  have hname : ∀ k, k < nz → (zs.getD k ⟨ByteArray.empty, []⟩).name = zoneN25.getD k ByteArray.empty := fun k hk => by
   have hg := zns_get nz k hk
   rw [← hz, List.getElem?_map] at hg
   rw [List.getD_eq_getElem?_getD]
   cases hc : zs[k]? with
   | none => rw [hc] at hg; cases hg
   | some z =>
    rw [hc] at hg
    simp only [Option.map_some, Option.some.injEq] at hg
    rw [Option.getD_some]
    have := congrArg DZone.name hg
    exact this
  refine ⟨fun k => if k = i then (if 0 < i ∧ pk L ((links25 L zs n i).2 + 1) 2 = 0 then 3 else (pk L (links25 L zs n i).2 zs.length).toNat) else c k, fun k => ?_, ?_, ?_⟩
  ·dsimp only
   split
   ·split
    ·decide
    ·omega
   ·exact h1 k
  ·dsimp only
   by_cases hi : 0 = i
   ·rw [if_pos hi, if_neg (by omega)]
    omega
   ·rw [if_neg hi]
    exact h2
  ·simp only [links25]
   have hA := lks_congr nz (fun k => if k = i then (if 0 < i ∧ pk L ((links25 L zs n i).2 + 1) 2 = 0 then 3 else (pk L (links25 L zs n i).2 zs.length).toNat) else c k) c i fun k hk => by rw [if_neg (by omega)]
   rw [h4, lks, hA, if_pos rfl]
   refine congrArg (fun q => lks nz c i ++ [q]) ?_
   unfold link25 lkT
   dsimp only
   by_cases hc : 0 < i ∧ pk L ((links25 L zs n i).2 + 1) 2 = 0
   ·rw [if_pos hc, if_pos hc, if_neg (by omega)]
   ·rw [if_neg hc, if_neg hc, if_pos (by omega), hname _ (by omega)]
theorem made25_links' (d : DDr) : linksD (made25 d) = none := by
 have hz3 : d.nz ≤ 3 := by unfold DDr.nz; omega
 have hl3 : d.nl ≤ 3 := by unfold DDr.nl; omega
 have hb := zones25_bare d.L d.made d.nz
 rw [linksD_bare]
 unfold made25 bareS
 dsimp only
 rw [hb]
 by_cases h0 : d.nz = 0
 ·rw [if_pos h0, h0]
  exact links_none
 ·rw [if_neg h0]
  obtain ⟨c, h1, h2, h3⟩ := links25_lks d.L _ d.nz hb (by omega) hz3 (zones25 d.L d.made d.nz).2 d.nl
  rw [h3, lks_congr d.nz c (ch3 (c 0) (c 1) (c 2)) d.nl fun i hi => by
   have hc : i = 0 ∨ i = 1 ∨ i = 2 := by omega
   rcases hc with rfl | rfl | rfl <;> rfl]
  exact links_all ⟨d.nz, by omega⟩ ⟨d.nl, by omega⟩ ⟨c 0, h1 0⟩ ⟨c 1, h1 1⟩ ⟨c 2, h1 2⟩ h2
theorem ofB_app (a b : List DRule) (x : ByteArray) : ofB (a ++ b) x = ofB a x ++ ofB b x := List.filter_append _ _
theorem ofB_all {l : List DRule} {x : ByteArray} (h : ∀ r ∈ l, r.name = x) : ofB l x = l := List.filter_eq_self.2 fun r hr => decide_eq_true (h r hr)
theorem ofB_no {l : List DRule} {x y : ByteArray} (h : ∀ r ∈ l, r.name = y) (hxy : y ≠ x) : ofB l x = [] := List.filter_eq_nil_iff.2 fun r hr => by
 rw [h r hr]
 simp [hxy]
theorem setN_ne : setN25.getD 0 ByteArray.empty ≠ setN25.getD 1 ByteArray.empty := by decide
theorem rules25_of (sets : List (List Int)) (m : Nat) (hm : m ≤ 2) (j : Nat) (hj : j < m) : ofB (rules25 sets m) (setN25.getD j ByteArray.empty) = made17 (sets.getD j []) (setN25.getD j ByteArray.empty) := by
 have n0 := made17_name' (sets.getD 0 []) (setN25.getD 0 ByteArray.empty)
 have n1 := made17_name' (sets.getD 1 []) (setN25.getD 1 ByteArray.empty)
 have hc : (m = 1 ∧ j = 0) ∨ (m = 2 ∧ j = 0) ∨ (m = 2 ∧ j = 1) := by omega
 rcases hc with ⟨rfl, rfl⟩ | ⟨rfl, rfl⟩ | ⟨rfl, rfl⟩
 ·simp only [rules25, List.nil_append]
  exact ofB_all n0
 ·simp only [rules25, List.nil_append, ofB_app]
  rw [ofB_all n0, ofB_no n1 setN_ne.symm, List.append_nil]
 ·simp only [rules25, List.nil_append, ofB_app]
  rw [ofB_no n0 setN_ne, ofB_all n1, List.nil_append]
theorem rules25_set (sets : List (List Int)) (m : Nat) (hm : m ≤ 2) (j : Nat) (hj : j < m) : DrSet (ofB (rules25 sets m) (setN25.getD j ByteArray.empty)) ∧ (ofB (rules25 sets m) (setN25.getD j ByteArray.empty)).length ≤ 5 := by
 rw [rules25_of sets m hm j hj]
 exact ⟨made17_set _ _, made17_len _ _⟩
theorem rules25_names (sets : List (List Int)) : ∀ m, ∀ r ∈ rules25 sets m, ∃ j, j < m ∧ r.name = setN25.getD j ByteArray.empty
 | 0, r, h => by cases h
 | m + 1, r, h => by
  rw [rules25, List.mem_append] at h
  rcases h with h | h
  ·obtain ⟨j, h1, h2⟩ := rules25_names sets m r h
   exact ⟨j, by omega, h2⟩
  ·exact ⟨m, by omega, made17_name' _ _ r h⟩
theorem namesB_mem' : ∀ (l : List DRule) (acc : List ByteArray), ∀ x ∈ namesB l acc, x ∈ acc ∨ ∃ r ∈ l, r.name = x
 | [], acc, x, h => .inl h
 | a :: l, acc, x, h => by
  rw [namesB] at h
  split at h
  ·rcases namesB_mem' l acc x h with h | ⟨r, h1, h2⟩
   ·exact .inl h
   ·exact .inr ⟨r, List.mem_cons_of_mem _ h1, h2⟩
  ·rcases namesB_mem' l (acc ++ [a.name]) x h with h | ⟨r, h1, h2⟩
   ·rw [List.mem_append, List.mem_singleton] at h
    rcases h with h | rfl
    ·exact .inl h
    ·exact .inr ⟨a, List.mem_cons_self, rfl⟩
   ·exact .inr ⟨r, List.mem_cons_of_mem _ h1, h2⟩
theorem setsGo_none' {rs : List DRule} : ∀ l : List ByteArray, (∀ x ∈ l, setFault rs x = none) → setsGo rs l = none
 | [], _ => rfl
 | x :: l, h => by
  rw [setsGo, h x List.mem_cons_self]
  exact setsGo_none' l fun y hy => h y (List.mem_cons_of_mem _ hy)
theorem rules25_sets (sets : List (List Int)) (m : Nat) (hm : m ≤ 2) : setsGo (rules25 sets m) (namesB (rules25 sets m) []) = none := by
 refine setsGo_none' _ fun x hx => ?_
 rcases namesB_mem' _ _ x hx with h | ⟨r, h1, h2⟩
 ·cases h
 ·obtain ⟨j, h3, h4⟩ := rules25_names sets m r h1
  rw [← h2, h4]
  refine (rules25_set sets m hm j h3).1.fault ?_
  have hc : j = 0 ∨ j = 1 := by omega
  rcases hc with rfl | rfl <;> decide
theorem zones25_dr (rs : List DRule) (L : List Int) (made : Nat) (hs : ∀ j, j < made → DrSet (ofB rs (setN25.getD j ByteArray.empty)) ∧ (ofB rs (setN25.getD j ByteArray.empty)).length ≤ 5) : ∀ i, ∀ z ∈ (zones25 L made i).1, ∃ Y, DrEras rs z.eras Y
 | 0, z, h => by cases h
 | i + 1, z, h => by
  simp only [zones25] at h
  rw [List.mem_append, List.mem_singleton] at h
  rcases h with h | rfl
  ·exact zones25_dr rs L made hs i z h
  ·exact zone25_dr rs L made _ i hs
theorem made25_zones (d : DDr) : ∀ z ∈ (made25 d).zones, ∃ Y, DrEras (made25 d).rules z.eras Y :=
 zones25_dr (rules25 d.sets d.made) d.L d.made (fun j hj => rules25_set d.sets d.made (Nat.min_le_right _ _) j hj) d.nz
theorem made25_sets (d : DDr) : setsD (made25 d) = none := rules25_sets d.sets d.made (Nat.min_le_right _ _)
theorem made25_sizes (d : DDr) (l : List DZone) (hl : l.length ≤ 100) (he : ∀ z ∈ l, z.eras.length ≤ 60) : sizesD { made25 d with zones := l } = none := by
 have h1 := rules25_len d.sets d.made
 have hm : d.made ≤ 2 := Nat.min_le_right _ _
 have hl3 : d.nl ≤ 3 := by unfold DDr.nl; omega
 have h2 := (links25_rng d.L (zones25 d.L d.made d.nz).1 (zones25 d.L d.made d.nz).2 d.nl).1
 have hk : (made25 d).links.length ≤ 3 := by
  unfold made25
  dsimp only
  split
  ·exact Nat.zero_le _
  ·omega
 have hr : (made25 d).rules.length ≤ 10 := by
  show (rules25 d.sets d.made).length ≤ 10
  omega
 have hf : l.findIdx? (fun z => decide (60 < z.eras.length)) = none := by
  rw [List.findIdx?_eq_none_iff]
  intro z hz
  have := he z hz
  exact decide_eq_false (by omega)
 unfold sizesD
 dsimp only
 rw [if_neg (by omega), if_neg (by omega), hf]
 dsimp only
 rw [if_neg (by omega), if_neg (by show ¬ 2000 < ([] : List ByteArray).length; decide)]
theorem made25_acc (d : DDr) : accD (made25 d) = none := by
 have h3 : (made25 d).zones.length ≤ 3 := by
  have := (zones25_rng d.L d.made d.nz).1
  have : d.nz ≤ 3 := by unfold DDr.nz; omega
  show (zones25 d.L d.made d.nz).1.length ≤ 3
  omega
 have hs : sizesD (made25 d) = none := made25_sizes d (made25 d).zones (by omega) fun z hz => by
  obtain ⟨Y, h⟩ := made25_zones d z hz
  have := h.len
  omega
 unfold accD
 rw [hs, made25_sets d, made25_links' d, zonesGo_none _ 0 (made25_zones d)]
 rfl
theorem fmtsL_min : ∀ f ∈ fmtsL, (match partsF f with | none => decide (kindF f = 1) && decide (3 ≤ f.length) | some (a, b) => decide (3 ≤ a.length) && decide (3 ≤ b.length)) = true := by decide +kernel
theorem fmtsS_min : ∀ f ∈ fmtsS, ∀ x ∈ lets4L, (abbrF f 0 0 x).2 = 0 ∧ 3 ≤ (abbrF f 0 0 x).1.length := by decide +kernel
theorem textN_min (x : Int) (h : -86400 < x ∧ x < 86400) : 3 ≤ (textN x).length := by
 unfold textN
 rw [if_neg (by omega)]
 simp only [List.length_cons, List.length_append, dig2_len']
 omega
theorem abbr_ok {f : ByteArray} (h : f ∈ fmtU) (off save : Int) {x : List UInt8} (hx : x ∈ lets4L) (hs : -86400 < off + save ∧ off + save < 86400) : (abbrF f.data.toList off save x).2 = 0 ∧ 3 ≤ (abbrF f.data.toList off save x).1.length := by
 rcases fmt_cases h with h | h | h
 ·have hp := fmtsL_min _ h
  unfold abbrF
  cases hq : partsF f.data.toList with
  | none =>
   rw [hq] at hp
   simp only [Bool.and_eq_true, decide_eq_true_eq] at hp
   dsimp only
   rw [hp.1, if_neg (by decide), if_neg (by decide), if_pos (.inl rfl)]
   exact ⟨rfl, hp.2⟩
  | some ab =>
   obtain ⟨a, b⟩ := ab
   rw [hq] at hp
   simp only [Bool.and_eq_true, decide_eq_true_eq] at hp
   dsimp only
   refine ⟨rfl, ?_⟩
   split
   ·exact hp.1
   ·exact hp.2
 ·obtain ⟨hk, _⟩ := fmts_kind.2.1 _ h
  have h1 := fmtsS_min _ h x hx
  have h2 : abbrF f.data.toList off save x = abbrF f.data.toList 0 0 x := by
   unfold abbrF
   rw [fmtsS_parts.1 _ h]
   dsimp only
   rw [if_pos hk, if_pos hk]
  rw [h2]
  exact h1
 ·unfold abbrF
  rw [h, fmtsS_parts.2, fmts_kind.2.2]
  dsimp only
  rw [if_neg (by decide), if_pos rfl, if_pos ⟨by unfold i64ok; simp; omega, textN_ok' _ hs⟩]
  exact ⟨rfl, textN_min _ hs⟩
def draftN (nz nl : Nat) : List ByteArray := zoneN25.take nz ++ linkN25.take nl
def DDr.nls (d : DDr) : Nat := if d.nz = 0 then 0 else d.nl
theorem zns_names : ∀ n, n ≤ 3 → (zns n).map (·.name) = zoneN25.take n
 | 0, _ => rfl
 | n + 1, h => by
  rw [zns, List.map_append, zns_names n (by omega)]
  have hc : n = 0 ∨ n = 1 ∨ n = 2 := by omega
  rcases hc with rfl | rfl | rfl <;> rfl
theorem lks_names (nz : Nat) (c : Nat → Nat) : ∀ n, n ≤ 3 → (lks nz c n).map (·.name) = linkN25.take n
 | 0, _ => rfl
 | n + 1, h => by
  rw [lks, List.map_append, lks_names nz c n (by omega)]
  have hc : n = 0 ∨ n = 1 ∨ n = 2 := by omega
  rcases hc with rfl | rfl | rfl <;> rfl
theorem draftN_nodup : ∀ nz nl : Fin 4, (draftN nz.val nl.val).Nodup := by decide +kernel
theorem find_all : ∀ nz : Fin 4, ∀ nl : Fin 4, ∀ a b c : Fin 4, a.val < nz.val → ∀ x ∈ draftN nz.val nl.val,
  (followD ⟨[], zns nz.val, lks nz.val (ch3 a.val b.val c.val) nl.val, []⟩ (nl.val + 1) [] x).2 = 0 ∧ 0 ≤ (followD ⟨[], zns nz.val, lks nz.val (ch3 a.val b.val c.val) nl.val, []⟩ (nl.val + 1) [] x).1 ∧ (followD ⟨[], zns nz.val, lks nz.val (ch3 a.val b.val c.val) nl.val, []⟩ (nl.val + 1) [] x).1 < nz.val := by decide +kernel
theorem made25_allN (d : DDr) : (made25 d).zones.map (·.name) = zoneN25.take d.nz ∧ (made25 d).links.map (·.name) = linkN25.take d.nls := by
 have hz3 : d.nz ≤ 3 := by unfold DDr.nz; omega
 have hl3 : d.nl ≤ 3 := by unfold DDr.nl; omega
 have hb := zones25_bare d.L d.made d.nz
 refine ⟨?_, ?_⟩
 ·have h1 := congrArg (List.map (·.name)) hb
  rw [List.map_map, zns_names d.nz hz3] at h1
  exact h1
 ·unfold DDr.nls
  show (if d.nz = 0 then _ else _ : List DLink).map _ = _
  by_cases h0 : d.nz = 0
  ·rw [if_pos h0, if_pos h0]; rfl
  ·rw [if_neg h0, if_neg h0]
   obtain ⟨c, h1, h2, h3⟩ := links25_lks d.L _ d.nz hb (by omega) hz3 (zones25 d.L d.made d.nz).2 d.nl
   rw [h3, lks_names d.nz c d.nl hl3]
theorem made25_nzl' (d : DDr) : (made25 d).zones.length = d.nz := (zones25_rng d.L d.made d.nz).1
theorem made25_find (d : DDr) (x : ByteArray) (hx : x ∈ draftN d.nz d.nls) :
  (followD (made25 d) ((made25 d).links.length + 1) [] x).2 = 0 ∧ 0 ≤ (followD (made25 d) ((made25 d).links.length + 1) [] x).1 ∧ (followD (made25 d) ((made25 d).links.length + 1) [] x).1 < (made25 d).zones.length := by
 have hz3 : d.nz ≤ 3 := by unfold DDr.nz; omega
 have hl3 : d.nl ≤ 3 := by unfold DDr.nl; omega
 have hb := zones25_bare d.L d.made d.nz
 have h0 : d.nz ≠ 0 := fun h0 => by
  unfold DDr.nls draftN at hx
  rw [if_pos h0, h0] at hx
  cases hx
 obtain ⟨c, h1, h2, h3⟩ := links25_lks d.L _ d.nz hb (by omega) hz3 (zones25 d.L d.made d.nz).2 d.nl
 have hll : (made25 d).links = lks d.nz (ch3 (c 0) (c 1) (c 2)) d.nl := by
  show (if d.nz = 0 then [] else (links25 d.L (zones25 d.L d.made d.nz).1 (zones25 d.L d.made d.nz).2 d.nl).1) = _
  rw [if_neg h0, h3, lks_congr d.nz c (ch3 (c 0) (c 1) (c 2)) d.nl fun i hi => by
   have hc : i = 0 ∨ i = 1 ∨ i = 2 := by omega
   rcases hc with rfl | rfl | rfl <;> rfl]
 have hln : (made25 d).links.length = d.nl := by
  have := congrArg List.length (lks_names d.nz (ch3 (c 0) (c 1) (c 2)) d.nl hl3)
  rw [List.length_map] at this
  rw [hll, this, List.length_take, Nat.min_eq_left (by exact hl3)]
 have hn : d.nls = d.nl := by unfold DDr.nls; rw [if_neg h0]
 rw [hn] at hx
 have hf := find_all ⟨d.nz, by omega⟩ ⟨d.nl, by omega⟩ ⟨c 0, h1 0⟩ ⟨c 1, h1 1⟩ ⟨c 2, h1 2⟩ h2 x hx
 rw [← followD_bare, hln, (made25_nzl' d)]
 unfold bareS
 rw [show (made25 d).zones.map bare' = zns d.nz from hb, hll]
 exact hf
def pctZ : ByteArray := ⟨#[37, 122]⟩
def negR (rs : List DRule) : Bool := rs.any fun r => decide (r.save < 0)
def numE (e : DEra) : Bool := decide (e.format = pctZ)
def numZ (zs : List DZone) : Bool := zs.any fun z => z.eras.any numE
theorem kind_fmt {f : ByteArray} (h : f ∈ fmtU) : decide (kindF f.data.toList = 4) = decide (f = pctZ) ∧ decide (kindF f.data.toList = 5) = false := by
 have h1 : ∀ f ∈ fmtU, decide (kindF f.data.toList = 4) = decide (f = pctZ) ∧ decide (kindF f.data.toList = 5) = false := by decide +kernel
 exact h1 f h
theorem any_and {α : Type} (l : List α) (p : α → Bool) (b : Bool) : (l.any fun x => p x && b) = (l.any p && b) := by cases b <;> simp
theorem any_mem' {α : Type} {p q : α → Bool} : ∀ {l : List α}, (∀ x ∈ l, p x = q x) → l.any p = l.any q
 | [], _ => rfl
 | a :: l, h => by rw [List.any_cons, List.any_cons, h a List.mem_cons_self, any_mem' fun x hx => h x (List.mem_cons_of_mem _ hx)]
theorem idx_none {α : Type} {l : List α} {p : α → Bool} (h : l.any p = false) : l.findIdx? p = none := by
 rw [List.findIdx?_eq_none_iff]
 intro x hx
 rw [List.any_eq_false] at h
 simpa using h x hx
theorem idx_some {α : Type} {l : List α} {p : α → Bool} (h : l.any p = true) : ∃ i, l.findIdx? p = some i := by
 cases hc : l.findIdx? p with
 | some i => exact ⟨i, rfl⟩
 | none =>
  rw [List.findIdx?_eq_none_iff] at hc
  obtain ⟨x, hx, hp⟩ := List.any_eq_true.1 h
  rw [hc x hx] at hp
  cases hp
theorem varFault_eq (s : DSource) (f : Int) (h1 : 1 ≤ f) (h3 : f ≤ 3) (hz : ∀ z ∈ s.zones, ∀ e ∈ z.eras, e.format ∈ fmtU) :
  (varFault f s).isNone = (!(negR s.rules && decide (f = 3)) && (!(numZ s.zones && !decide (f = 1)) && !(decide (0 < s.shifts.length) && !decide (f = 3)))) := by
 unfold varFault
 rw [if_neg (by omega)]
 have e1 := any_and s.rules (fun r => decide (r.save < 0)) (decide (f = 3))
 cases hn : (negR s.rules && decide (f = 3)) with
 | true =>
  obtain ⟨i, hi⟩ := idx_some (e1.trans hn)
  rw [hi]
  rfl
 | false =>
  rw [idx_none (e1.trans hn)]
  dsimp only
  have e2 : (s.zones.any fun z => z.eras.any fun e => (decide (kindF e.format.data.toList = 4) && !decide (f = 1)) || (decide (kindF e.format.data.toList = 5) && decide (f = 1))) = (numZ s.zones && !decide (f = 1)) := by
   unfold numZ
   rw [← any_and]
   refine any_mem' fun z hz2 => ?_
   rw [← any_and]
   refine any_mem' fun e he => ?_
   obtain ⟨q1, q2⟩ := kind_fmt (hz z hz2 e he)
   rw [q1, q2]
   simp [numE]
  cases hu : (numZ s.zones && !decide (f = 1)) with
  | true =>
   obtain ⟨i, hi⟩ := idx_some (e2.trans hu)
   rw [hi]
   rfl
  | false =>
   rw [idx_none (e2.trans hu)]
   dsimp only
   by_cases hs : 0 < s.shifts.length ∧ f ≠ 3
   ·rw [if_pos hs, decide_eq_true hs.1, decide_eq_false hs.2]
    rfl
   ·rw [if_neg hs]
    by_cases h4 : 0 < s.shifts.length
    ·rw [decide_eq_true h4, decide_eq_true (show f = 3 by omega)]
     rfl
    ·rw [decide_eq_false h4]
     rfl
theorem formsD_eq (s : DSource) (ha : accD s = none) (hz : ∀ z ∈ s.zones, ∀ e ∈ z.eras, e.format ∈ fmtU) :
  formsD s = (if 0 < s.shifts.length then [] else 1 :: if numZ s.zones then [] else [2]) ++ (if negR s.rules || numZ s.zones then [] else [3]) := by
 unfold formsD
 rw [ha]
 have a1 := varFault_eq s 1 (by decide) (by decide) hz
 have a2 := varFault_eq s 2 (by decide) (by decide) hz
 have a3 := varFault_eq s 3 (by decide) (by decide) hz
 rw [show decide ((1 : Int) = 3) = false from rfl, show decide ((1 : Int) = 1) = true from rfl] at a1
 rw [show decide ((2 : Int) = 3) = false from rfl, show decide ((2 : Int) = 1) = false from rfl] at a2
 rw [show decide ((3 : Int) = 3) = true from rfl, show decide ((3 : Int) = 1) = false from rfl] at a3
 rw [show (none : Option (DPlace × Int)).isSome = false from rfl, if_neg (by decide), List.filter_cons, List.filter_cons, List.filter_cons, List.filter_nil, a1, a2, a3]
 by_cases hs : 0 < s.shifts.length
 ·rw [decide_eq_true hs, if_pos hs]
  cases negR s.rules <;> cases numZ s.zones <;> rfl
 ·rw [decide_eq_false hs, if_neg hs]
  cases negR s.rules <;> cases numZ s.zones <;> rfl
theorem made25_fmts (d : DDr) : ∀ z ∈ (made25 d).zones, ∀ e ∈ z.eras, e.format ∈ fmtU := fun z hz e he => by
 obtain ⟨Y, h⟩ := made25_zones d z hz
 obtain ⟨k, hk⟩ := List.getElem?_of_mem he
 exact (h.era k e hk).fmt
theorem made25_formsD (d : DDr) : formsD (made25 d) = if numZ (made25 d).zones then [1] else if negR (made25 d).rules then [1, 2] else [1, 2, 3] := by
 rw [formsD_eq _ (made25_acc d) (made25_fmts d), show (made25 d).shifts = [] from rfl, if_neg (by decide)]
 cases negR (made25 d).rules <;> cases numZ (made25 d).zones <;> rfl
end Go.Proofs.YtbjkhnlnedfceaaGreatDoor
