/- Contracts: analemmalaw33.some, slices.IsSorted. -/
import Derived.Test.YtfhjfpikngcknaaMade25
import Derived.Test.YtfhjfpikngcknaaKeepS
namespace Go.Proofs.Ytfhjfpikngcknaa
open Go Go.RowKit Go.Wk
theorem W_toRow1 {P : Program} {n : Nat} {wr : World} {fr : Fr} {O : List It} {c0 : Code} {Q : Exit → Fr → List It → Prop} {b : Nat} {x : ByteArray} {O' : List It} (hu : Upd O (.blk b [.string x] 9) (.row (.slice (some ⟨b, 0, none⟩) 1 1) 9 1 1 [.string x]) O') (h : W P n wr c0 Q fr O') : W P n wr c0 Q fr O := fun a w hs => h a w ⟨hs.sim, hs.old, by
  refine hs.own.upd hu hs.old.size (Nat.le_refl _) (fun _ _ _ => rfl) ?_ (fun i hi => ?_)
  · have hsat := hs.own.sat _ hu.mem
    refine ⟨rfl, .inr ⟨b, 1, #[.string x], rfl, Nat.zero_le _, hsat, Nat.le_refl _, by decide, rfl, rfl⟩⟩
  · left
    simp only [It.S, Value.ownBlock, Option.some.injEq] at hi ⊢
    exact hi.symm⟩
attribute [local irreducible] W RL Does thenQ blockQ retQ Calls Pu Stp RD Qy Ay DoesIn
theorem made25N_spec (As Al : Option Addr) (cs c : Nat) (d : DDr) (w : World) (hS : RdSets w As cs d.sets) (hL : RdSl w Al c byEnc 1 d.L) (hr : ∀ x ∈ d.L, inR .u8 x) (hrs : ∀ l ∈ d.sets, ∀ x ∈ l, inR .u8 x) (hz : inR .u8 d.zones) (hl : inR .u8 d.links) :
    Does Try.prog 26 [dr25V As Al cs c d] w (NewSrc (made25 d)) :=
  (made25_spec As Al cs c d w hS hL hr hrs hz hl).monoO fun _ _ h => newSrc_of h

/-- A bit of a byte, as the program asks for it. -/
def bitOn (bits : Int) (i : Nat) : Bool := decide (IntKind.u8.wrap (BitVec.ofInt 8 (bits.fdiv (2 ^ min ((i : Int) % 8).toNat 8)) &&& BitVec.ofInt 8 1).toNat = 1)
def pickZ (bits : Int) : Nat → List DZone → List ByteArray
  | _, [] => []
  | i, z :: l => (if bitOn bits i then [z.name] else []) ++ pickZ bits (i + 1) l
def nNone : ByteArray := ⟨#[78, 111, 110, 101]⟩
def someD (s : DSource) (bits : Int) : List ByteArray := nNone :: pickZ bits 0 s.zones
theorem pickZ_snoc (bits : Int) : ∀ (l : List DZone) (i : Nat) (z : DZone), pickZ bits i (l ++ [z]) = pickZ bits i l ++ if bitOn bits (i + l.length) then [z.name] else []
  | [], i, z => by simp [pickZ]
  | y :: l, i, z => by
    rw [List.cons_append, pickZ, pickZ, pickZ_snoc bits l (i + 1) z, List.append_assoc, List.length_cons, show i + 1 + l.length = i + (l.length + 1) by omega]
theorem pickZ_len (bits : Int) : ∀ (l : List DZone) (i : Nat), (pickZ bits i l).length ≤ l.length
  | [], _ => Nat.le_refl _
  | y :: l, i => by
    have := pickZ_len bits l (i + 1)
    rw [pickZ, List.length_append, List.length_cons]
    split <;> simp <;> omega
set_option maxHeartbeats 4000000 in
theorem some_spec (Ar Az Al As : Option Addr) (cr cz cl cs : Nat) (s : DSource) (bits : Int) (w : World) (hA : RdSource w Ar Az Al As cr cz cl cs s) (hn : s.zones.length ≤ 1000) :
    Does Try.prog 27 [srcV Ar Az Al As cr cz cl cs s, .int .u8 bits] w (NewSl 9 1 strEnc (someD s bits)) := by
  have hs1 := hA.zle
  refine Does_of_W Try.func27 rfl rfl rfl rfl ?_
  repeat (first | (apply RL_st; rfl; (first | (apply Stp_boxNf; rfl; (focus repeat (first | exact Nf.nil | apply Nf.cons)); intro bk) | (apply Stp_buildSliceC; rfl; rfl; rfl; rfl; (focus repeat (first | exact Nf.nil | apply Nf.cons)); intro bk) | (apply Stp_alloc; intro bk))) | refine walk ?_)
  rename_i b2
  refine W_toRow1 (by (focus repeat' constructor)) ?_
  refine W_loopF [(1, .int .u8 bits), (10, .slice Az s.zones.length cz), (11, .int .i64 s.zones.length)] [] (fun g : RG => [(12, .int .i64 g.k), (5, .slice g.A g.m g.c)]) (fun g => [.row (.slice g.A g.m g.c) 9 1 g.m g.xs]) (fun g => g.k ≤ s.zones.length ∧ g.m = (nNone :: pickZ bits 0 (s.zones.take g.k)).length ∧ g.xs = (nNone :: pickZ bits 0 (s.zones.take g.k)).flatMap strEnc) (fun g => s.zones.length - g.k) ⟨0, some ⟨bk, 0, none⟩, 1, 1, [.string nNone]⟩ (by repeat (first | exact trivial | refine ⟨rfl, ?_⟩)) (by first | exact .refl _ | focus repeat (first | exact SubO.nil | (apply SubO.cons; focus repeat' constructor))) ⟨Nat.zero_le _, by simp [pickZ], by simp [pickZ, strEnc]⟩ ?_
  rintro ⟨k, A0, c0, m0, x0⟩ ⟨hk, hm0, hx0⟩
  dsimp only at hk hm0 hx0 ⊢
  have hl := pickZ_len bits (s.zones.take k) 0
  rw [List.length_take, Nat.min_eq_left hk] at hl
  rw [List.length_cons] at hm0
  repeat (first | (apply RL_st; rfl; (first | (apply Stp_boxNf; rfl; (focus repeat (first | exact Nf.nil | apply Nf.cons)); intro bk) | (apply Stp_buildSliceC; rfl; rfl; rfl; rfl; (focus repeat (first | exact Nf.nil | apply Nf.cons)); intro bk) | (apply Stp_alloc; intro bk))) | refine walk ?_)
  refine W_cond rfl (fun h => ?_) (fun h => ?_)
  · have hk2 : k < s.zones.length := by simpa using h
    obtain ⟨hna, cs1, ⟨Ae, ce, hE, rfl⟩, hca⟩ := hA.z k _ (List.getElem?_eq_getElem hk2)
    have hst : pickZ bits 0 (s.zones.take (k + 1)) = pickZ bits 0 (s.zones.take k) ++ if bitOn bits k then [s.zones[k].name] else [] := by
      rw [← List.take_append_getElem hk2, pickZ_snoc, List.length_take, Nat.min_eq_left hk, Nat.zero_add]
    generalize s.zones[k] = z at *
    repeat (first | (apply RL_pu; rfl; (first | (apply Pu_indexAddr; rfl; rfl; omega; omega; exact hna) | (apply Pu_loadON; rfl; exact hca; rfl) | (apply Pu_shrW; rfl; rfl; omega) | (apply Pu_andW; rfl; rfl))) | (apply RL_st; rfl; (first | (apply Stp_boxNf; rfl; (focus repeat (first | exact Nf.nil | apply Nf.cons)); intro bk) | (apply Stp_buildSliceC; rfl; rfl; rfl; rfl; (focus repeat (first | exact Nf.nil | apply Nf.cons)); intro bk) | (apply Stp_alloc; intro bk))) | refine walk1 ?_)
    refine W_cond rfl (fun h2 => ?_) (fun h2 => ?_)
    · replace h2 : bitOn bits k = true := h2
      rw [h2] at hst
      repeat (first | (apply RL_st0; (apply Stp_append; rfl; rfl; (intro A' c'; (focus repeat' constructor)); (intro w' _ hO; exact blkRaw (hO.of (by (focus repeat' constructor)))); rfl; rfl; (simp only [maxLen]; omega); omega; intro A' c' hc1 hc2 hc3)) | (apply RL_st; rfl; (first | (apply Stp_append; rfl; rfl; (intro A' c'; (focus repeat' constructor)); (intro w' _ hO; exact blkRaw (hO.of (by (focus repeat' constructor)))); rfl; rfl; (simp only [maxLen]; omega); omega; intro A' c' hc1 hc2 hc3) | (apply Stp_boxNf; rfl; (focus repeat (first | exact Nf.nil | apply Nf.cons)); intro bk) | (apply Stp_buildSliceC; rfl; rfl; rfl; rfl; (focus repeat (first | exact Nf.nil | apply Nf.cons)); intro bk) | (apply Stp_alloc; intro bk))) | refine walk ?_)
      exact ⟨⟨k + 1, A', c', m0 + 1, x0 ++ strEnc z.name⟩, (by first | omega | (dsimp only; omega)), ⟨(by first | omega | (dsimp only; omega)), by rw [hst, hm0]; simp, by rw [hst, hx0]; simp⟩, (by repeat (first | exact trivial | refine ⟨rfl, ?_⟩)), (by first | exact .refl _ | focus repeat (first | exact SubO.nil | (apply SubO.cons; focus repeat' constructor)))⟩
    replace h2 : bitOn bits k = false := h2
    rw [h2] at hst
    repeat (first | (apply RL_st; rfl; (first | (apply Stp_boxNf; rfl; (focus repeat (first | exact Nf.nil | apply Nf.cons)); intro bk) | (apply Stp_buildSliceC; rfl; rfl; rfl; rfl; (focus repeat (first | exact Nf.nil | apply Nf.cons)); intro bk) | (apply Stp_alloc; intro bk))) | refine walk ?_)
    exact ⟨⟨k + 1, A0, c0, m0, x0⟩, (by first | omega | (dsimp only; omega)), ⟨(by first | omega | (dsimp only; omega)), by rw [hst, hm0]; simp, by rw [hst, hx0]; simp⟩, (by repeat (first | exact trivial | refine ⟨rfl, ?_⟩)), (by first | exact .refl _ | focus repeat (first | exact SubO.nil | (apply SubO.cons; focus repeat' constructor)))⟩
  have hkl : k = s.zones.length := by simp only [decide_eq_false_iff_not, Int.ofNat_lt] at h; omega
  subst hkl
  rw [List.take_length] at hm0 hx0
  have e : m0 = (someD s bits).length := hm0
  subst e
  repeat (first | (apply RL_st; rfl; (first | (apply Stp_boxNf; rfl; (focus repeat (first | exact Nf.nil | apply Nf.cons)); intro bk) | (apply Stp_buildSliceC; rfl; rfl; rfl; rfl; (focus repeat (first | exact Nf.nil | apply Nf.cons)); intro bk) | (apply Stp_alloc; intro bk))) | refine walk ?_)
  exact ret_1 _ [.row (.slice A0 (someD s bits).length c0) 9 1 (someD s bits).length x0] (.tmp rfl) (by first | exact .refl _ | focus repeat (first | exact SubO.nil | (apply SubO.cons; focus repeat' constructor))) ⟨A0, c0, rfl, by rw [hx0]; rfl⟩

/-- No name behind a greater one. -/
def sortedB : List ByteArray → Bool
  | x :: y :: l => !lessB y x && sortedB (y :: l)
  | _ => true
theorem sortedB_get : ∀ (l : List ByteArray) (k : Nat) (x y : ByteArray), sortedB l = true → l[k]? = some x → l[k + 1]? = some y → lessB y x = false
  | [], _, _, _, _, h, _ => by simp at h
  | [a], k, x, y, _, _, h => by simp at h
  | a :: b :: l, 0, x, y, hs, hx, hy => by
    simp only [List.getElem?_cons_zero, Option.some.injEq, List.getElem?_cons_succ, Nat.zero_add] at hx hy
    subst hx hy
    simp only [sortedB, Bool.and_eq_true, Bool.not_eq_true'] at hs
    exact hs.1
  | a :: b :: l, k + 1, x, y, hs, hx, hy => by
    simp only [sortedB, Bool.and_eq_true] at hs
    exact sortedB_get (b :: l) k x y hs.2 (by simpa using hx) (by simpa using hy)
theorem isSorted_spec (A : Option Addr) (c : Nat) (l : List ByteArray) (w : World) (hA : RdSl w A c strEnc 1 l) (hs : sortedB l = true) :
    Does Try.prog 32 [.slice A l.length c] w (fun v O => v = .bool true ∧ O = []) := by
  have hs1 := hA.le
  have hs2 := hA.cap
  simp only [maxLen] at hs2
  refine Does_of_W Try.func32 rfl rfl rfl rfl ?_
  repeat (first | refine walk ?_ | (refine RD_Lw ?_; intro F; (apply Stp_pu; exact PuA); refine ⟨_, EndsA, QFA, ?_⟩))
  refine W_loopF [(0, .slice A l.length c)] [] (fun g : Nat => [(3, .int .i64 ((g : Int) - 1))]) (fun g => []) (fun g => g ≤ l.length) (fun g => g) l.length (by repeat (first | exact trivial | refine ⟨rfl, ?_⟩)) (by first | exact .refl _ | focus repeat (first | exact SubO.nil | (apply SubO.cons; focus repeat' constructor))) (Nat.le_refl _) ?_
  intro g hg
  repeat (first | refine walk ?_ | (refine RD_Lw ?_; intro F; (apply Stp_pu; exact PuA); refine ⟨_, EndsA, QFA, ?_⟩))
  refine W_cond rfl (fun h => ?_) (fun h => ?_)
  · have hg2 : 2 ≤ g := by simp only [decide_eq_true_eq] at h; omega
    obtain ⟨k, rfl⟩ : ∃ k, g = k + 2 := ⟨g - 2, by omega⟩
    have hk1 : k + 1 < l.length := by omega
    have hk0 : k < l.length := by omega
    obtain ⟨hna, hca⟩ := hA.rd _ _ (List.getElem?_eq_getElem hk1)
    obtain ⟨_, hcb⟩ := hA.rd _ _ (List.getElem?_eq_getElem hk0)
    have hle := sortedB_get l k _ _ hs (List.getElem?_eq_getElem hk0) (List.getElem?_eq_getElem hk1)
    generalize l[k] = x at *
    generalize l[k + 1] = y at *
    rw [show (((k + 2 : Nat) : Int) - 1) = ((k + 1 : Nat) : Int) by omega]
    have hcb' : CellsAt w ((adr A).add ((((k + 1 : Nat) : Int) - 1).toNat * 1)) (strEnc x) := by
      rw [show (((k + 1 : Nat) : Int) - 1).toNat = k by omega]; exact hcb
    repeat (first | (apply RL_pu; rfl; (first | (apply Pu_indexAddr; rfl; rfl; omega; omega; exact hna) | (apply Pu_loadO1; rfl; first | exact hca 0 _ rfl | exact hcb' 0 _ rfl))) | (apply RL_st0; (apply Stp_call (h := fun w' _ _ => less_spec y x w'); rfl; rintro v O' ⟨rfl, rfl⟩)) | (apply RL_st; rfl; (apply Stp_call (h := fun w' _ _ => less_spec y x w'); rfl; rintro v O' ⟨rfl, rfl⟩)) | (apply RD_Q; rfl; rfl; decide +kernel; rfl; rfl; (first | (apply Qy_y; rfl; (first | (apply Pu_indexAddr; rfl; rfl; omega; omega; exact hna) | (apply Pu_loadO1; rfl; first | exact hca 0 _ rfl | exact hcb' 0 _ rfl))) | exact QyA)) | refine walk1 ?_ | (refine RD_G0w ?_; intro F; (apply Stp_call (h := fun w' _ _ => less_spec y x w'); rfl; rintro v O' ⟨rfl, rfl⟩); refine ⟨_, EndsA, SubO.right _ _, ?_⟩) | (refine RD_Lw ?_; intro F; (first | (apply Stp_call (h := fun w' _ _ => less_spec y x w'); rfl; rintro v O' ⟨rfl, rfl⟩) | (apply Stp_pu; first | (apply Pu_indexAddr; rfl; rfl; omega; omega; exact hna) | (apply Pu_loadO1; rfl; first | exact hca 0 _ rfl | exact hcb' 0 _ rfl) | exact PuA)); refine ⟨_, EndsA, (by repeat (first | exact QF.nil | (apply QF.mk; rfl; rfl; decide +kernel; (first | (apply Qy_y; rfl; (first | (apply Pu_indexAddr; rfl; rfl; omega; omega; exact hna) | (apply Pu_loadO1; rfl; first | exact hca 0 _ rfl | exact hcb' 0 _ rfl))) | exact QyA)))), ?_⟩))
    rw [hle]
    repeat (first | refine walk ?_ | (refine RD_Lw ?_; intro F; (apply Stp_pu; exact PuA); refine ⟨_, EndsA, QFA, ?_⟩))
    exact ⟨k + 1, (by first | omega | (dsimp only; omega)), (by first | omega | (dsimp only; omega)), (by repeat (first | exact trivial | refine ⟨rfl, ?_⟩)), (by first | exact .refl _ | focus repeat (first | exact SubO.nil | (apply SubO.cons; focus repeat' constructor)))⟩
  repeat (first | refine walk ?_ | (refine RD_Lw ?_; intro F; (apply Stp_pu; exact PuA); refine ⟨_, EndsA, QFA, ?_⟩))
  exact ret_1 _ [] (.tmp rfl) .nil ⟨rfl, rfl⟩
end Go.Proofs.Ytfhjfpikngcknaa
