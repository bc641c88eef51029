/- The source of a draft of layer 25, as plain functions; a step of its counter. -/
import Derived.Test.YtfhjfpikngcknaaDraft25
import Derived.Test.YtfhjfpikngcknaaWkQ
namespace Go.Proofs.Ytfhjfpikngcknaa
open Go Go.RowKit Go.Wk

structure DDr where
  sets : List (List Int)
  zones : Int
  links : Int
  L : List Int
structure RdSets (w : World) (A : Option Addr) (c : Nat) (sets : List (List Int)) : Prop where
  le : sets.length ≤ c
  cap : c ≤ maxLen
  rd : ∀ k l, sets[k]? = some l → A ≠ none ∧ ∃ B cb, RdSl w B cb byEnc 1 l ∧ CellsAt w ((adr A).add (k * 1)) [.slice B l.length cb]
theorem RdSets.up {w w' : World} {A : Option Addr} {c : Nat} {sets : List (List Int)} (h : RdSets w A c sets) (hb : Below w.heap.size w w') : RdSets w' A c sets :=
  ⟨h.le, h.cap, fun k l hk => by
    obtain ⟨h1, B, cb, h2, h3⟩ := h.rd k l hk
    exact ⟨h1, B, cb, h2.up hb, h3.up hb (Nat.le_refl _)⟩⟩
def fmt25 : List ByteArray := [⟨#[76, 77, 84]⟩, ⟨#[71, 77, 84, 47, 66, 83, 84]⟩, ⟨#[67, 69, 37, 115, 84]⟩, ⟨#[37, 122]⟩]
def e0 (L : List Int) (n : Int) : DEra := ⟨(pk L n 53 - 26) * 1800, 0, 0, ⟨#[]⟩, fmt25.getD (pk L (n + 1) 4).toNat ByteArray.empty, noTil⟩
def eraN (L : List Int) (made : Nat) (n : Int) : DEra := { era21 (pk L (n + 1 + 1 + 1 + 1) 49) (pk L (n + 1 + 1 + 1 + 1 + 1) 4) with set := setN25.getD (pk L (n + 1 + 1 + 1) made).toNat ByteArray.empty }
def eraF (L : List Int) (n : Int) : DEra := { e0 L n with kind := 1, save := (1 + pk L (n + 1 + 1 + 1) 4) * 1800 }
def era25 (L : List Int) (made : Nat) (n : Int) (k : Nat) : DEra × Int :=
  if 0 < k ∧ 1 < pk L (n + 1 + 1) 5 ∧ 0 < made then (eraN L made n, n + 1 + 1 + 1 + 1 + 1 + 1) else if pk L (n + 1 + 1) 5 = 1 then (eraF L n, n + 1 + 1 + 1 + 1) else (e0 L n, n + 1 + 1 + 1)
def eras25 (L : List Int) (made : Nat) (n : Int) : Nat → List DEra × Int
  | 0 => ([], n)
  | k + 1 => ((eras25 L made n k).1 ++ [(era25 L made (eras25 L made n k).2 k).1], (era25 L made (eras25 L made n k).2 k).2)
def til25 (L : List Int) (n y : Int) : DUntil := ⟨true, y, 12, ⟨1, 0, 5 + pk L (n + 1) 20⟩, ⟨pk L (n + 1 + 1) 49 * 1800, pk L (n + 1 + 1 + 1) 3⟩⟩
def eraZ : DEra := ⟨0, 0, 0, ByteArray.empty, ByteArray.empty, noTil⟩
def setTil (u : DUntil) (e : DEra) : DEra := { e with til := u }
def tils25 (L : List Int) (n y : Int) (es : List DEra) : Nat → List DEra × Int
  | 0 => (es, y)
  | k + 1 => ((tils25 L n y es k).1.set k (setTil (til25 L (n + 4 * k) ((tils25 L n y es k).2 + (1 + pk L (n + 4 * k) 40))) ((tils25 L n y es k).1.getD k eraZ)), (tils25 L n y es k).2 + (1 + pk L (n + 4 * k) 40))
def cnt25 (L : List Int) (n : Int) : Nat := (1 + pk L (n + 1) 4).toNat
def zone25 (L : List Int) (made : Nat) (n : Int) (i : Nat) : DZone × Int :=
  (⟨zoneN25.getD i ByteArray.empty, (tils25 L (eras25 L made (n + 1 + 1) (cnt25 L n)).2 (1860 + pk L n 60) (eras25 L made (n + 1 + 1) (cnt25 L n)).1 (cnt25 L n - 1)).1⟩, (eras25 L made (n + 1 + 1) (cnt25 L n)).2 + 4 * (cnt25 L n - 1 : Nat))
def zones25 (L : List Int) (made : Nat) : Nat → List DZone × Int
  | 0 => ([], 0)
  | i + 1 => ((zones25 L made i).1 ++ [(zone25 L made (zones25 L made i).2 i).1], (zone25 L made (zones25 L made i).2 i).2)
def link25 (L : List Int) (zs : List DZone) (n : Int) (i : Nat) : DLink × Int :=
  (⟨if 0 < i ∧ pk L (n + 1) 2 = 0 then linkN25.getD (i - 1) ByteArray.empty else (zs.getD (pk L n zs.length).toNat ⟨ByteArray.empty, []⟩).name, linkN25.getD i ByteArray.empty⟩, if 0 < i then n + 1 + 1 else n + 1)
def links25 (L : List Int) (zs : List DZone) (n : Int) : Nat → List DLink × Int
  | 0 => ([], n)
  | i + 1 => ((links25 L zs n i).1 ++ [(link25 L zs (links25 L zs n i).2 i).1], (link25 L zs (links25 L zs n i).2 i).2)
def rules25 (sets : List (List Int)) : Nat → List DRule
  | 0 => []
  | k + 1 => rules25 sets k ++ made17 (sets.getD k []) (setN25.getD k ByteArray.empty)
def DDr.made (d : DDr) : Nat := min d.sets.length 2
def DDr.nz (d : DDr) : Nat := (d.zones % 4).toNat
def DDr.nl (d : DDr) : Nat := (d.links % 4).toNat
def made25 (d : DDr) : DSource :=
  ⟨rules25 d.sets d.made, (zones25 d.L d.made d.nz).1, if d.nz = 0 then [] else (links25 d.L (zones25 d.L d.made d.nz).1 (zones25 d.L d.made d.nz).2 d.nl).1, []⟩

theorem made17_len (l : List Int) (x : ByteArray) : (made17 l x).length ≤ 5 := by
  obtain ⟨q1, q2, q3⟩ := m1_rng l
  obtain ⟨q4, q5, q6⟩ := m2_rng l (m1 l).1 (m1 l).2 q1 q2 q3
  rw [made17, List.length_map, m3, List.length_append, pairB_len]
  omega
theorem rules25_len (sets : List (List Int)) : ∀ k, (rules25 sets k).length ≤ 5 * k
  | 0 => Nat.le_refl _
  | k + 1 => by
    have := rules25_len sets k
    have h2 := made17_len (sets.getD k []) (setN25.getD k ByteArray.empty)
    rw [rules25, List.length_append]
    omega
theorem era25_rng (L : List Int) (made : Nat) (n : Int) (k : Nat) : n ≤ (era25 L made n k).2 ∧ (era25 L made n k).2 ≤ n + 6 := by
  unfold era25
  split
  · constructor <;> dsimp only <;> omega
  · split <;> constructor <;> dsimp only <;> omega
theorem eras25_rng (L : List Int) (made : Nat) (n : Int) : ∀ k : Nat, (eras25 L made n k).1.length = k ∧ n ≤ (eras25 L made n k).2 ∧ (eras25 L made n k).2 ≤ n + 6 * k
  | 0 => ⟨rfl, Int.le_refl _, by simp [eras25]⟩
  | k + 1 => by
    obtain ⟨h1, h2, h3⟩ := eras25_rng L made n k
    obtain ⟨h4, h5⟩ := era25_rng L made (eras25 L made n k).2 k
    refine ⟨by simp [eras25, h1], ?_, ?_⟩ <;> simp only [eras25] <;> omega
theorem tils25_len (L : List Int) (n y : Int) (es : List DEra) : ∀ k, (tils25 L n y es k).1.length = es.length
  | 0 => rfl
  | k + 1 => by rw [tils25, List.length_set, tils25_len L n y es k]
theorem tils25_year (L : List Int) (n y : Int) (es : List DEra) : ∀ k : Nat, y ≤ (tils25 L n y es k).2 ∧ (tils25 L n y es k).2 ≤ y + 40 * k
  | 0 => by simp [tils25]
  | k + 1 => by
    obtain ⟨h1, h2⟩ := tils25_year L n y es k
    have h3 := pk_range L (n + 4 * k) 40 (by decide)
    simp only [tils25]
    omega
theorem cnt25_rng (L : List Int) (n : Int) : 1 ≤ cnt25 L n ∧ cnt25 L n ≤ 4 := by
  have := pk_range L (n + 1) 4 (by decide)
  unfold cnt25
  omega
theorem zone25_rng (L : List Int) (made : Nat) (n : Int) (i : Nat) : n ≤ (zone25 L made n i).2 ∧ (zone25 L made n i).2 ≤ n + 38 ∧ (zone25 L made n i).1.eras.length = cnt25 L n := by
  obtain ⟨h1, h2⟩ := cnt25_rng L n
  obtain ⟨h3, h4, h5⟩ := eras25_rng L made (n + 1 + 1) (cnt25 L n)
  refine ⟨?_, ?_, ?_⟩
  · simp only [zone25]; omega
  · simp only [zone25]; omega
  · simp only [zone25, tils25_len, h3]
theorem zones25_rng (L : List Int) (made : Nat) : ∀ i : Nat, (zones25 L made i).1.length = i ∧ 0 ≤ (zones25 L made i).2 ∧ (zones25 L made i).2 ≤ 38 * i
  | 0 => by simp [zones25]
  | i + 1 => by
    obtain ⟨h1, h2, h3⟩ := zones25_rng L made i
    obtain ⟨h4, h5, h6⟩ := zone25_rng L made (zones25 L made i).2 i
    refine ⟨by simp [zones25, h1], ?_, ?_⟩ <;> simp only [zones25] <;> omega
theorem links25_rng (L : List Int) (zs : List DZone) (n : Int) : ∀ i : Nat, (links25 L zs n i).1.length = i ∧ n ≤ (links25 L zs n i).2 ∧ (links25 L zs n i).2 ≤ n + 2 * i
  | 0 => by simp [links25]
  | i + 1 => by
    obtain ⟨h1, h2, h3⟩ := links25_rng L zs n i
    have h4 : (links25 L zs n i).2 ≤ (link25 L zs (links25 L zs n i).2 i).2 ∧ (link25 L zs (links25 L zs n i).2 i).2 ≤ (links25 L zs n i).2 + 2 := by
      unfold link25
      dsimp only
      split <;> omega
    refine ⟨by simp [links25, h1], ?_, ?_⟩ <;> simp only [links25] <;> omega

/-- An end stored into the k-th era of a row. -/
theorem til_lay (u : DUntil) : ∀ (l : List DEra) (k : Nat) (e : DEra), l[k]? = some e → lay (l.flatMap DEra.enc) (k * 13 + 5) u.enc = (l.set k (setTil u e)).flatMap DEra.enc
  | [], k, r, h => by simp at h
  | a :: l, 0, r, h => by
    simp only [List.getElem?_cons_zero, Option.some.injEq] at h
    subst h
    simp [lay, setTil, DEra.enc, DUntil.enc]
  | a :: l, k + 1, r, h => by
    have ih := til_lay u l k r (by simpa using h)
    simp only [List.flatMap_cons, List.set_cons_succ]
    rw [← ih]
    have hs : ∀ (vs : List Value) (cs : List Value) (j : Nat), lay (a.enc ++ cs) (13 + j) vs = a.enc ++ lay cs j vs := by
      intro vs
      induction vs with
      | nil => intro cs j; rfl
      | cons v r ih2 =>
        intro cs j
        rw [lay, lay, List.set_append_right _ _ (by rw [DEra.len]; omega), DEra.len, show 13 + j - 13 = j by omega, show 13 + j + 1 = 13 + (j + 1) by omega, ih2]
    rw [show (k + 1) * 13 + 5 = 13 + (k * 13 + 5) by omega, hs]

attribute [local irreducible] W RL Does thenQ blockQ retQ Calls Pu Stp RD Qy Ay DoesIn
section
variable {n : Nat} {fr : Fr} {O : List It} {ty : TypeId} {pos : String} {af : Array Edge} {dst : Option Tmp} {g : Option (Nat × Bool)} {Kp : Value → List It → Prop}
/-- A number of the draft is drawn. -/
theorem Stp_pick {As Al : Option Addr} {ls cs c : Nat} {z k : Int} {L : List Int} {N m : Int} {b1 b3 : Nat} {wr : World} {gx x : Operand} {ts : Array TypeId} {O' R1 R2 R3 : List It} (hA : RdSl wr Al c byEnc 1 L) (hr : ∀ x ∈ L, inR .u8 x)
    (hg : ev fr gx = some (.func (.func 71) #[] #[.pointer (some ⟨b3, 0, none⟩), .pointer (some ⟨b1, 0, none⟩)])) (hx : ev fr x = some (.int .i64 m))
    (hu : Upd O (.blk b3 [.int .i64 N] 3) (.blk b3 [.int .i64 (N + 1)] 3) O') (hp : Pick (.blk b3 [.int .i64 N] 3) O R1) (hp' : Pick (.blk b3 [.int .i64 (N + 1)] 3) O' R2) (hq : Pick (.blk b1 [.slice As ls cs, .int .u8 z, .int .u8 k, .slice Al L.length c] 52) O' R3)
    (hn : 0 ≤ N) (hn2 : N ≤ 100000) (hm : 0 < m) (kk : Kp (.int .i64 (pk L N m)) O') : Stp Try.prog n wr fr O ⟨dst, .call ⟨.value gx, #[x], ts⟩, ty, pos, af, g⟩ Kp := by
  refine Stp_callVIn (f := 71) (us := []) (cs := [.pointer (some ⟨b3, 0, none⟩), .pointer (some ⟨b1, 0, none⟩)]) (xs := [x]) (vs := [.int .i64 m]) hg ?_ (pick_spec As Al ls cs c z k L N m b1 b3 wr hA hr hn hn2 hm O O' R1 R2 R3 hu hp hp' hq) (.refl _) ?_
  · simp [evsO, hx]
  · rintro v O' ⟨rfl, rfl⟩
    exact kk
end
end Go.Proofs.Ytfhjfpikngcknaa
