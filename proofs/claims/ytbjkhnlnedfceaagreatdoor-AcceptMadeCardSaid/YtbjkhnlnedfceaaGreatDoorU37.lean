/- Contracts: analemmalaw25: names and the numbers of a draft; analemmalaw21.Era. The source of a draft of layer 25, as plain functions; a step of its counter. -/
import Derived.Test.YtbjkhnlnedfceaaGreatDoorU36
import Derived.Test.YtbjkhnlnedfceaaGreatDoorU13
set_option maxHeartbeats 4000000
set_option linter.unusedVariables false
set_option linter.unusedSimpArgs false
namespace Go.Proofs.YtbjkhnlnedfceaaGreatDoor
open Go Go.RowKit Go.Wk
attribute [local irreducible] W RL Does thenQ blockQ retQ Calls Pu Stp RD Qy Ay DoesIn
theorem names25_spec (w : World) : Does Tryz.prog 33 [] w (fun v O => ∃ a b c, v = .tuple #[.slice (some ⟨a, 0, none⟩) 2 2, .slice (some ⟨b, 0, none⟩) 3 3, .slice (some ⟨c, 0, none⟩) 3 3] ∧ O = [.blk a (setN25.flatMap strEnc) 9, .blk b (zoneN25.flatMap strEnc) 9, .blk c (linkN25.flatMap strEnc) 9]) := by
 refine Does_of_W Tryz.func33 rfl rfl rfl rfl ?_
 repeat (first | (refine js ?_; (refine bx ?_; intro bk)) | refine walk ?_)
 rename_i b1 b2
 exact ret_3 (.slice (some ⟨b1, 0, none⟩) 2 2) (.slice (some ⟨b2, 0, none⟩) 3 3) (.slice (some ⟨bk, 0, none⟩) 3 3) [.blk b1 (setN25.flatMap strEnc) 9, .blk b2 (zoneN25.flatMap strEnc) 9, .blk bk (linkN25.flatMap strEnc) 9] (.tmp rfl) (.tmp rfl) (.tmp rfl) SOA ⟨_, _, _, rfl, rfl⟩
theorem PuDraft250 {G : Prop} (h : G := by (apply Pu_loadB1; rfl; (first | exact hp | exact hp' | exact hq); rfl)) : G := h
theorem QyDraft250 {G : Prop} (h : G := by first | (apply Qy_y; rfl; exact PuDraft250) | exact QyA) : G := h
theorem QFDraft250 {G : Prop} (h : G := by repeat (first | exact QF.nil | (apply QF.mk; rfl; rfl; decide +kernel; exact QyDraft250))) : G := h
theorem PuDraft251 {G : Prop} (h : G := by (apply Pu_loadB1; rfl; (first | exact hp' | exact hq); rfl)) : G := h
theorem QyDraft251 {G : Prop} (h : G := by first | (apply Qy_y; rfl; exact PuDraft251) | exact QyA) : G := h
theorem QFDraft251 {G : Prop} (h : G := by repeat (first | exact QF.nil | (apply QF.mk; rfl; rfl; decide +kernel; exact QyDraft251))) : G := h
theorem PuDraft252 {G : Prop} (h : G := by (first | exact PuDraft251 | exact PuI)) : G := h
theorem QyDraft252 {G : Prop} (h : G := by first | (apply Qy_y; rfl; exact PuDraft252) | exact QyA) : G := h
theorem QFDraft252 {G : Prop} (h : G := by repeat (first | exact QF.nil | (apply QF.mk; rfl; rfl; decide +kernel; exact QyDraft252))) : G := h
theorem pick_spec (As Al : Option Addr) (ls cs c : Nat) (z k : Int) (L : List Int) (n m : Int) (b1 b3 : Nat) (wr : World) (hA : RdSl wr Al c byEnc 1 L) (hr : ∀ x ∈ L, inR .u8 x) (hn : 0 ≤ n) (hn2 : n ≤ 100000) (hm : 0 < m) (O O' R1 R2 R3 : List It)
  (hu : Upd O (.blk b3 [.int .i64 n] 3) (.blk b3 [.int .i64 (n + 1)] 3) O') (hp : Pick (.blk b3 [.int .i64 n] 3) O R1) (hp' : Pick (.blk b3 [.int .i64 (n + 1)] 3) O' R2) (hq : Pick (.blk b1 [.slice As ls cs, .int .u8 z, .int .u8 k, .slice Al L.length c] 25) O' R3) :
  DoesIn Tryz.prog 32 [.int .i64 m, .pointer (some ⟨b3, 0, none⟩), .pointer (some ⟨b1, 0, none⟩)] wr O (fun v Ox => v = .int .i64 (pk L n m) ∧ Ox = O') := by
 have hs1 := hA.le
 have hs2 := hA.cap
 simp only [maxLen] at hs2
 refine DoesIn_of_W Tryz.func32 rfl rfl rfl rfl ?_
 repeat (first | (apply RL_pu; rfl; exact PuDraft250) | (refine js ?_; (apply Stp_storeNf; rfl; rfl; exact hu; (focus repeat' constructor); rfl; rfl; rfl; (focus repeat' constructor))) | (apply RD_Q; rfl; rfl; decide +kernel; rfl; rfl; exact QyDraft250) | refine walk1 ?_ | (refine RD_Lw ?_; intro F; (first | (apply Stp_storeNf; rfl; rfl; exact hu; (focus repeat' constructor); rfl; rfl; rfl; (focus repeat' constructor)) | (refine stA ?_) | (apply Stp_pu; first | exact PuDraft250 | exact PuA)); refine ⟨_, EndsA, QFDraft250, ?_⟩))
 refine W_cond rfl (fun h => ?_) (fun h => ?_)
 ·repeat (first | (apply RL_pu; rfl; exact PuDraft251) | (apply RD_Q; rfl; rfl; decide +kernel; rfl; rfl; exact QyDraft251) | refine walk1 ?_ | (refine jn ?_; (try intro F); (first | (refine stA ?_) | (apply Stp_pu; first | exact PuDraft251 | exact PuA)); first | refine ⟨_, EndsA, QFDraft251, ?_⟩ | refine fin ?_))
  exact ret_1 _ O' (.tmp rfl) (.refl _) ⟨by rw [pk, if_pos (by simpa using h)], rfl⟩
 have h0 : L.length ≠ 0 := by simpa using h
 have hp0 : (0 : Int) < L.length := by omega
 have hm0 := Int.emod_nonneg (n + 1) (b := (L.length : Int)) (by omega)
 have hm1 := Int.emod_lt_of_pos (n + 1) hp0
 have hk : ((n + 1) % (L.length : Int)).toNat < L.length := by omega
 obtain ⟨hna, hca⟩ := hA.rd _ _ (List.getElem?_eq_getElem hk)
 have hv := hr _ (List.getElem_mem hk)
 have e : pk L n m = L[((n + 1) % (L.length : Int)).toNat] % m := by
  rw [pk, if_neg h0, List.getD_eq_getElem?_getD, List.getElem?_eq_getElem hk]
  rfl
 rw [e]
 generalize L[((n + 1) % (L.length : Int)).toNat] = r at *
 rw [inR_u8] at hv
 repeat (first | (apply RL_pu; rfl; exact PuDraft252) | (apply RD_Q; rfl; rfl; decide +kernel; rfl; rfl; exact QyDraft252) | refine walk1 ?_ | (refine jn ?_; (try intro F); (first | (refine stA ?_) | (apply Stp_pu; first | exact PuDraft252 | exact PuA)); first | refine ⟨_, EndsA, QFDraft252, ?_⟩ | refine fin ?_))
 exact ret_1 _ O' (.tmp rfl) (.refl _) ⟨rfl, rfl⟩
set_option maxHeartbeats 4000000 in
theorem era21_spec (A : Value) (off kind : Int) (h1 : 0 ≤ off) (h2 : off < 49) (h3 : 0 ≤ kind) (h4 : kind < 4) (w : World) : Does Tryz.prog 34 [A, .int .u8 off, .int .u8 kind] w (fun v O => v = .agg (era21 off kind).enc.toArray ∧ O = []) := by
 have m1 : off % 49 = off := by omega
 have m2 : kind % 5 = kind := by omega
 have hget : fmt21[kind.toNat]? = some (fmt21.getD kind.toNat ByteArray.empty) := by
  have hk : kind.toNat < fmt21.length := by simp only [fmt21, List.length_cons, List.length_nil]; omega
  rw [List.getD_eq_getElem?_getD, List.getElem?_eq_getElem hk]
  rfl
 have hne : fmt21.getD kind.toNat ByteArray.empty ≠ ⟨#[]⟩ := by
  obtain h | h | h | h : kind = 0 ∨ kind = 1 ∨ kind = 2 ∨ kind = 3 := by omega
  all_goals subst h; decide
 refine Does_of_W Tryz.func34 rfl rfl rfl rfl ?_
 repeat (first | (apply RL_pu; rfl; (apply Pu_mul; rfl; rfl; omega)) | (refine js ?_; (refine bx ?_; intro bk)) | refine walk1 ?_)
 rw [m1, m2]
 refine W_cond rfl (fun h => ?_) (fun h => ?_)
 ·have h' := of_decide_eq_true h
  exact absurd h' hne
 repeat (first | (refine js ?_; (refine bx ?_; intro bk)) | refine walk ?_)
 exact ret_1 (.agg (era21 off kind).enc.toArray) [] (.cellB rfl (by repeat' constructor) rfl rfl) .nil ⟨rfl, rfl⟩
end Go.Proofs.YtbjkhnlnedfceaaGreatDoor
namespace Go.Proofs.YtbjkhnlnedfceaaGreatDoor
open Go Go.RowKit Go.Wk
structure RdSets (w : World) (A : Option Addr) (c : Nat) (sets : List (List Int)) : Prop where
 le : sets.length ≤ c
 cap : c ≤ maxLen
 rd : ∀ k l, sets[k]? = some l → A ≠ none ∧ ∃ B cb, RdSl w B cb byEnc 1 l ∧ CellsAt w ((adr A).add (k * 1)) [.slice B l.length cb]
theorem RdSets.up {w w' : World} {A : Option Addr} {c : Nat} {sets : List (List Int)} (h : RdSets w A c sets) (hb : Bel w.heap.size w w') : RdSets w' A c sets :=
 ⟨h.le, h.cap, fun k l hk => by
  obtain ⟨h1, B, cb, h2, h3⟩ := h.rd k l hk
  exact ⟨h1, B, cb, h2.up hb, h3.up hb (Nat.le_refl _)⟩⟩
theorem til_lay (u : DUntil) : ∀ (l : List DEra) (k : Nat) (e : DEra), l[k]? = some e → lay (l.flatMap DEra.enc) (k * 13 + 5) u.enc = (l.set k (setTil u e)).flatMap DEra.enc
 | [], k, r, h => by simp at h
 | a :: l, 0, r, h => by
  simp only [List.getElem?_cons_zero, Option.some.injEq] at h
  subst h
  simp [lay, setTil, DEra.enc, DUntil.enc]
 | a :: l, k + 1, r, h => by
  have ih := til_lay u l k r (by simpa using h)
  simp only [List.flatMap_cons, List.set_cons_succ]
  rw [← ih]
  have hs : ∀ (vs : List Value) (cs : List Value) (j : Nat), lay (a.enc ++ cs) (13 + j) vs = a.enc ++ lay cs j vs := by
   intro vs
   induction vs with
   | nil => intro cs j; rfl
   | cons v r ih2 =>
    intro cs j
    rw [lay, lay, List.set_append_right _ _ (by rw [DEra.len]; omega), DEra.len, show 13 + j - 13 = j by omega, show 13 + j + 1 = 13 + (j + 1) by omega, ih2]
  rw [show (k + 1) * 13 + 5 = 13 + (k * 13 + 5) by omega, hs]
attribute [local irreducible] W RL Does thenQ blockQ retQ Calls Pu Stp RD Qy Ay DoesIn
section
variable {n : Nat} {fr : Fr} {O : List It} {ty : TypeId} {pos : String} {af : Array Edge} {dst : Option Tmp} {g : Option (Nat × Bool)} {Kp : Value → List It → Prop}
theorem Stp_pick {As Al : Option Addr} {ls cs c : Nat} {z k : Int} {L : List Int} {N m : Int} {b1 b3 : Nat} {wr : World} {gx x : Operand} {ts : Array TypeId} {O' R1 R2 R3 : List It} (hA : RdSl wr Al c byEnc 1 L) (hr : ∀ x ∈ L, inR .u8 x)
  (hg : ev fr gx = some (.func (.func 32) #[] #[.pointer (some ⟨b3, 0, none⟩), .pointer (some ⟨b1, 0, none⟩)])) (hx : ev fr x = some (.int .i64 m))
  (hu : Upd O (.blk b3 [.int .i64 N] 3) (.blk b3 [.int .i64 (N + 1)] 3) O') (hp : Pick (.blk b3 [.int .i64 N] 3) O R1) (hp' : Pick (.blk b3 [.int .i64 (N + 1)] 3) O' R2) (hq : Pick (.blk b1 [.slice As ls cs, .int .u8 z, .int .u8 k, .slice Al L.length c] 25) O' R3)
  (hn : 0 ≤ N) (hn2 : N ≤ 100000) (hm : 0 < m) (kk : Kp (.int .i64 (pk L N m)) O') : Stp Tryz.prog n wr fr O ⟨dst, .call ⟨.value gx, #[x], ts⟩, ty, pos, af, g⟩ Kp := by
 refine Stp_callVIn (f := 32) (us := []) (cs := [.pointer (some ⟨b3, 0, none⟩), .pointer (some ⟨b1, 0, none⟩)]) (xs := [x]) (vs := [.int .i64 m]) hg ?_ (pick_spec As Al ls cs c z k L N m b1 b3 wr hA hr hn hn2 hm O O' R1 R2 R3 hu hp hp' hq) (.refl _) ?_
 ·simp [evsO, hx]
 ·rintro v O' ⟨rfl, rfl⟩
  exact kk
end
end Go.Proofs.YtbjkhnlnedfceaaGreatDoor
