/- Contract: analemmalaw25.AcceptMade. -/
import Derived.Test.YtbjkhnlnedfceaaGreatDoorU25
import Derived.Test.YtbjkhnlnedfceaaGreatDoorU36
import Derived.Test.YtbjkhnlnedfceaaGreatDoorU38
import Derived.Test.YtbjkhnlnedfceaaGreatDoorU41
import Derived.Test.YtbjkhnlnedfceaaGreatDoorU29
set_option maxHeartbeats 4000000
set_option linter.unusedVariables false
set_option linter.unusedSimpArgs false
namespace Go.Wk
open Go Go.RowKit
section
variable {P : Program} {n : Nat} {wr : World} {fr : Fr} {O : List It} {ty : TypeId}
theorem Pu_geqSB {t t' : TypeId} {x y : Operand} {i j : ByteArray} {b : Bool} (hx : ev fr x = some (.string i)) (hy : ev fr y = some (.string j)) (h : (!Op.bytesLess i.toList j.toList) = b) : Pu P n wr fr O (.binOp .geq t x y t') ty (.bool b) :=
 fun a w hs _ _ _ _ => by subst h; simp [execOp, hs.sim.ev hx, hs.sim.ev hy, eqGuard, binOp, Op.stringOp]
end
end Go.Wk
namespace Go.Proofs.YtbjkhnlnedfceaaGreatDoor
open Go Go.RowKit Go.Wk
attribute [local irreducible] W RL Does thenQ blockQ retQ Calls Pu Stp RD Qy Ay DoesIn made25
theorem ze_atM {Zs : List ZE} {zs : List DZone} (h : Zs.map ZE.z = zs) {j : Nat} {z : DZone} (hg : zs[j]? = some z) : ∃ q, Zs[j]? = some q ∧ q.z = z := by
 subst h
 rw [List.getElem?_map] at hg
 cases hq : Zs[j]? with
 | none => rw [hq] at hg; cases hg
 | some q =>
  rw [hq] at hg
  exact ⟨q, rfl, Option.some.inj hg⟩
theorem inTm (Ar Az Al As : Option Addr) (cr cz cl cs : Nat) (a : DSource) (f : Int) (w : World) (h : AccOk w Ar Az Al As cr cz cl cs a) (hf : inD a f = none) :
  Does Tryz.prog 15 [srcV Ar Az Al As cr cz cl cs a, .int .i64 f] w (fun v O => v = .tuple #[.agg #[.int .i64 0, .int .i64 0, .int .i64 0], .int .i64 0] ∧ O = []) := by
 have := inA_spec Ar Az Al As cr cz cl cs a f w h
 rwa [hf] at this
theorem fiT (Ar Az Al As : Option Addr) (cr cz cl cs : Nat) (a : DSource) (x : ByteArray) (i : Nat) (w : World) (hA : RdSource w Ar Az Al As cr cz cl cs a) (hn : a.zones.length + a.links.length ≤ 1000000) (h : (followD a (a.links.length + 1) [] x).2 = 0) (hi : (followD a (a.links.length + 1) [] x).1 = i) :
  Does Tryz.prog 22 [srcV Ar Az Al As cr cz cl cs a, .string x] w (fun v O => v = .tuple #[.int .i64 i, .int .i64 0] ∧ O = []) := by
 have := lfind_spec Ar Az Al As cr cz cl cs a x w hA hn
 rwa [h, hi] at this
theorem abT (e : DEra) (x : Int × ByteArray) (r : ByteArray) (w : World) (hL : LibW w) (hs : e.format.size ≤ 1000000000) (h : stGood e x) (hr : (⟨(abbrF e.format.data.toList e.off x.1 x.2.data.toList).1.toArray⟩ : ByteArray) = r) :
  Does Tryz.prog 24 [.string e.format, .int .i64 e.off, .agg #[.int .i64 x.1, .string x.2]] w (fun v O => v = .tuple #[.string r, .int .i64 0] ∧ O = []) := by
 obtain ⟨h1, h2, h3, h4, h5, h6, h7, h8⟩ := h
 have := fabbr_spec e.format x.2 e.off x.1 w hL hs (by omega) ⟨by omega, by omega⟩ ⟨by omega, by omega⟩
 unfold xpV at this
 rwa [h1, hr] at this
structure MdG where
 k : Nat
 A : Option Addr
 c : Nat
 m : Nat
 ys : List Value
theorem PuMad251 {G : Prop} (h : G := by (first | (apply Pu_indexAddrH; rfl; rfl; omega; omega; (intro w' _ hO; exact row_some (hO.of (A := .row (.slice An ns.length cn) 9 1 ns.length (ns.flatMap strEnc)) (by repeat' constructor)) (by omega))) | (apply Pu_loadR; rfl; (focus repeat' constructor); first | exact hx1 | exact hy1) | (apply Pu_lssB; rfl; rfl; exact e1) | (apply Pu_geqB; rfl; rfl; exact e2) | (apply Pu_gtrB; rfl; rfl; exact e3) | (apply Pu_geqSB; rfl; rfl; exact e4))) : G := h
theorem wkMad250 {G G' : Prop} (k : G') (h : Hold G' → G := by intro k9; (first | refine und ?_ | (apply RL_pu; rfl; exact PuMad251) | (refine js ?_; (refine callO (fun w' hw hO => fiT R1 Z1 L1 H1 r1 z1 l1 h1 s x fi w' (src_rd hZ1 (hO.of (A := rowR R1 r1 _) (by repeat' constructor)) (hO.of (A := rowZ Z1 z1 _) (by repeat' constructor)) (hO.of (A := rowL L1 l1 _) (by repeat' constructor)) (hO.of (A := rowS H1 h1 _) (by repeat' constructor)) (hO.of (A := .fact S1 (ErasAt Zs1)) (by repeat' constructor))) (by omega) f0 hfi) ?_)) | refine walk1 ?_); exact k9.out) : G := h ⟨k⟩
set_option maxHeartbeats 8000000 in
theorem acceptMade_spec (As Al : Option Addr) (cs c : Nat) (d : DDr) (w : World) (hL : LibW w) (hG : Glob w) (hS : RdSets w As cs d.sets) (hD : RdSl w Al c byEnc 1 d.L) (hr : ∀ x ∈ d.L, inR .u8 x) (hrs : ∀ l ∈ d.sets, ∀ x ∈ l, inR .u8 x) (hz : inR .u8 d.zones) (hl : inR .u8 d.links) :
  Does Tryz.prog 6 [dr25V As Al cs c d] w (fun v O => v = .bool true ∧ O = []) := by
 have hwk := fun w' (hw : Bel w.heap.size w w') => works25_spec w' (hL.up hw) (hG.up hw)
 have hmk := fun w' (hw : Bel w.heap.size w w') => (made25_spec As Al cs c d w' (hS.up hw) (hD.up hw) hr hrs hz hl).monoO fun _ _ h => newSrc_of h
 have q1 := made25_in1 d
 have q2 := fun ns => made25_namesOk d (ns := ns)
 have q3 := made25_good d
 have hsm := made25_sml d
 have hnz : (made25 d).zones.length + (made25 d).links.length ≤ 12 := made25_few d
 have hnr := hsm.nr
 generalize made25 d = s at *
 refine Does_of_W Tryz.func6 rfl rfl rfl rfl ?_
 repeat (first | refine und ?_ | (apply RL_pu; rfl; (apply Pu_neqEB (i := (⟨0, 0, 0⟩ : DPlace)) (j := (⟨0, 0, 0⟩ : DPlace)) (enc := DPlace.enc); rfl; rfl; exact (by decide : (!decide ((⟨0, 0, 0⟩ : DPlace) = ⟨0, 0, 0⟩)) = false))) | (refine js ?_; (first | (apply Stp_call (h := fun w' hw _ => hmk w' hw); rfl; rintro v O' ⟨R1, r1, Z1, z1, L1, l1, H1, h1, Zs1, S1, rfl, hZ1, rfl⟩) | (refine callO (fun w' hw hO => inTm R1 Z1 L1 H1 r1 z1 l1 h1 s 1 w' (hsm.acc (hL.up hw) (hG.up hw) (src_rd hZ1 (hO.of (A := rowR R1 r1 _) (by repeat' constructor)) (hO.of (A := rowZ Z1 z1 _) (by repeat' constructor)) (hO.of (A := rowL L1 l1 _) (by repeat' constructor)) (hO.of (A := rowS H1 h1 _) (by repeat' constructor)) (hO.of (A := .fact S1 (ErasAt Zs1)) (by repeat' constructor)))) q1) ?_) | (apply Stp_call (h := fun w' hw hO => linkNames_spec R1 Z1 L1 H1 r1 z1 l1 h1 s w' (src_rd hZ1 (hO.of (A := rowR R1 r1 _) (by repeat' constructor)) (hO.of (A := rowZ Z1 z1 _) (by repeat' constructor)) (hO.of (A := rowL L1 l1 _) (by repeat' constructor)) (hO.of (A := rowS H1 h1 _) (by repeat' constructor)) (hO.of (A := .fact S1 (ErasAt Zs1)) (by repeat' constructor))) hnz); rfl; rintro v O' ⟨An, cn, ns, hns, rfl, rfl⟩) | (refine bx ?_; intro bk))) | refine walk1 ?_)
 rename_i b1 b3
 generalize bk = b4
 obtain ⟨hlen, hfind⟩ := q2 ns hns
 refine W_cond rfl (fun h => ?_) (fun h => ?_)
 ·exfalso; simp at h; omega
 repeat (first | (refine js ?_; (refine bx ?_; intro bk)) | refine walk ?_)
 refine W_loopF [(3, .pointer (some ⟨b3, 0, none⟩)), (6, .slice An ns.length cn), (49, .slice An ns.length cn), (50, .int .i64 ns.length)] [.blk b3 [.slice R1 s.rules.length r1, .slice Z1 s.zones.length z1, .slice L1 s.links.length l1, .slice H1 s.shifts.length h1] 31, rowR R1 r1 s.rules, rowZ Z1 z1 Zs1, rowL L1 l1 s.links, rowS H1 h1 s.shifts, .fact S1 (ErasAt Zs1), .row (.slice An ns.length cn) 9 1 ns.length (ns.flatMap strEnc)]
  (fun k : Nat => [(51, .int .i64 k)]) (fun _ => []) (fun k => k ≤ ns.length) (fun k => ns.length - k) 0 SFA SOA (Nat.zero_le _) ?_
 intro k hk
 repeat (first | (refine js ?_; (refine bx ?_; intro bk)) | refine walk ?_)
 refine W_cond rfl (fun h => ?_) (fun h => ?_)
 ·have hk2 : k < ns.length := by simpa using h
  obtain ⟨x, hx⟩ : ∃ x, ns[k]? = some x := ⟨_, List.getElem?_eq_getElem hk2⟩
  have hx1 : (ns.flatMap strEnc)[((k : Int)).toNat * 1]? = some (.string x) := flat_get strEnc.len ns k _ 0 _ hx rfl
  obtain ⟨f0, f1, f2⟩ := hfind x (List.mem_of_getElem? hx)
  obtain ⟨fi, hfi⟩ : ∃ fi, (followD s (s.links.length + 1) [] x).1 = fi := ⟨_, rfl⟩
  rw [hfi] at f1 f2
  have e1 : decide ((fi : Int) < 0) = false := decide_eq_false (by omega)
  have e2 : decide ((s.zones.length : Int) ≤ (fi : Int)) = false := decide_eq_false (by omega)
  cases k with
  | zero =>
   have e3 : decide ((0 : Int) < ((0 : Nat) : Int)) = false := rfl
   repeat (first | refine wkMad250 ?_ | (refine js ?_; (refine bx ?_; intro bk)))
   exact ⟨1, by omega, by omega, SFA, SOA⟩
  | succ k =>
   obtain ⟨y, hy⟩ : ∃ y, ns[k]? = some y := ⟨_, List.getElem?_eq_getElem (by omega)⟩
   have hy1 : (ns.flatMap strEnc)[(((k + 1 : Nat) : Int) - 1).toNat * 1]? = some (.string y) := by
    rw [show (((k + 1 : Nat) : Int) - 1).toNat = k by omega]
    exact flat_get strEnc.len ns k _ 0 _ hy rfl
   have e3 : decide ((0 : Int) < ((k + 1 : Nat) : Int)) = true := decide_eq_true (by omega)
   have e4 : (!Op.bytesLess y.toList x.toList) = false := by
    have := SortS.at hns.1 hy hx
    unfold lessB at this
    rw [this]; rfl
   repeat (first | refine wkMad250 ?_ | (refine js ?_; (refine bx ?_; intro bk)))
   exact ⟨k + 1 + 1, by omega, by omega, SFA, SOA⟩
 clear h hk
 repeat (first | (refine js ?_; (refine bx ?_; intro bk)) | refine walk ?_)
 clear hfind hlen hns q1 q2
 refine W_loopF [(3, .pointer (some ⟨b3, 0, none⟩)), (90, .slice Z1 s.zones.length z1), (91, .int .i64 s.zones.length)] [.blk b3 [.slice R1 s.rules.length r1, .slice Z1 s.zones.length z1, .slice L1 s.links.length l1, .slice H1 s.shifts.length h1] 31, rowR R1 r1 s.rules, rowZ Z1 z1 Zs1, rowL L1 l1 s.links, rowS H1 h1 s.shifts, .fact S1 (ErasAt Zs1)] (fun i : Nat => [(92, .int .i64 i)]) (fun _ => []) (fun i => i ≤ s.zones.length) (fun i => s.zones.length - i) 0 SFA SOA (Nat.zero_le _) ?_
 intro i hi
 repeat (first | (refine js ?_; (refine bx ?_; intro bk)) | refine walk ?_)
 refine W_cond rfl (fun h => ?_) (fun h => ?_)
 ·have hi2 : i < s.zones.length := by simpa using h
  obtain ⟨q, hq, hqe⟩ := ze_atM hZ1 (List.getElem?_eq_getElem hi2)
  have hqm : q.z ∈ s.zones := hqe ▸ List.getElem_mem hi2
  have hm1 : q ∈ Zs1 := List.mem_of_getElem? hq
  have hjl : i < Zs1.length := (List.getElem?_eq_some_iff.1 hq).1
  have hx1 : ∀ j v, q.enc[j]? = some v → (Zs1.flatMap ZE.enc)[((i : Int)).toNat * 2 + j]? = some v := fun j v hj => flat_get ZE.len Zs1 i q j v hq hj
  have hq3 := q3 q.z hqm
  obtain ⟨_, hel, hes⟩ := hsm.zs q.z hqm
  clear hqe
  repeat (first | (apply RL_pu; rfl; (first | (apply Pu_indexAddrH; rfl; rfl; omega; omega; (intro w' _ hO; exact row_some (hO.of (A := rowZ Z1 z1 Zs1) (by repeat' constructor)) (by omega))) | (apply Pu_loadRN; rfl; (focus repeat' constructor); exact hx1; rfl))) | (refine js ?_; (refine bx ?_; intro bk)) | refine walk1 ?_)
  refine W_loopF [(3, .pointer (some ⟨b3, 0, none⟩)), (90, .slice Z1 s.zones.length z1), (91, .int .i64 s.zones.length), (92, .int .i64 i), (97, .slice q.A q.z.eras.length q.c), (98, .int .i64 q.z.eras.length)] [.blk b3 [.slice R1 s.rules.length r1, .slice Z1 s.zones.length z1, .slice L1 s.links.length l1, .slice H1 s.shifts.length h1] 31, rowR R1 r1 s.rules, rowZ Z1 z1 Zs1, rowL L1 l1 s.links, rowS H1 h1 s.shifts, .fact S1 (ErasAt Zs1)] (fun j : Nat => [(99, .int .i64 j)]) (fun _ => []) (fun j => j ≤ q.z.eras.length) (fun j => q.z.eras.length - j) 0 SFA SOA (Nat.zero_le _) ?_
  intro j hj
  repeat (first | (refine js ?_; (refine bx ?_; intro bk)) | refine walk ?_)
  refine W_cond rfl (fun h2 => ?_) (fun h2 => ?_)
  ·have hj2 : j < q.z.eras.length := by simpa using h2
   obtain ⟨e, hej⟩ : ∃ e, q.z.eras[j]? = some e := ⟨_, List.getElem?_eq_getElem hj2⟩
   have hem := List.mem_of_getElem? hej
   obtain ⟨g1, g2, g3⟩ := hq3 e hem
   have hfs := (hes e hem).fmt
   repeat (first | (apply RL_pu; rfl; (first | (apply Pu_indexAddrH; rfl; rfl; omega; omega; (intro w' _ hO; exact (((fact_at (S := S1) (p := ErasAt Zs1) (hO.of (by repeat' constructor))) q hm1).rd j _ hej).1)) | (apply Pu_loadN (cs := e.enc); rfl; rfl; (intro w' _ hO; exact (((fact_at (S := S1) (p := ErasAt Zs1) (hO.of (by repeat' constructor))) q hm1).rd j _ hej).2)))) | (refine js ?_; (refine bx ?_; intro bk)) | refine walk1 ?_)
   rename_i be
   generalize bk = bs
   refine W_post (fun fr' O' => ∃ (X : It) (A : Option Addr) (c : Nat), (∀ w', X.sat w' → RdSl w' A c stEnc 2 (statesOf s.rules e)) ∧ Sub [(3, .pointer (some ⟨b3, 0, none⟩)), (90, .slice Z1 s.zones.length z1), (91, .int .i64 s.zones.length), (92, .int .i64 i), (97, .slice q.A q.z.eras.length q.c), (98, .int .i64 q.z.eras.length), (99, .int .i64 j), (14, .pointer (some ⟨be, 0, none⟩)), (15, .slice A (statesOf s.rules e).length c)] fr' ∧ SubO [X, .blk be [.int .i64 e.off, .int .i64 e.kind, .int .i64 e.save, .string e.set, .string e.format, .bool e.til.is, .int .i64 e.til.year, .int .i64 e.til.month, .int .i64 e.til.day.kind, .int .i64 e.til.day.week, .int .i64 e.til.day.day, .int .i64 e.til.at_.sec, .int .i64 e.til.at_.base] 48, .blk b3 [.slice R1 s.rules.length r1, .slice Z1 s.zones.length z1, .slice L1 s.links.length l1, .slice H1 s.shifts.length h1] 31, rowR R1 r1 s.rules, rowZ Z1 z1 Zs1, rowL L1 l1 s.links, rowS H1 h1 s.shifts, .fact S1 (ErasAt Zs1)] O') ?_ ?_
   ·refine W_cond rfl (fun h3 => ?_) (fun h3 => ?_)
    ·have hk2 : e.kind = 2 := of_decide_eq_true h3
     have hst : statesOf s.rules e = (ofB s.rules e.set).map fun r => (r.save, r.letter) := by
      unfold statesOf setOf
      rw [if_neg (by omega), if_pos hk2, if_pos hk2]
     have hRl : (ofB s.rules e.set).length ≤ 100 := Nat.le_trans (ofB_len _ _) hnr
     rw [hst, List.length_map]
     have hof := fun w' h => ofN_spec R1 Z1 L1 H1 r1 z1 l1 h1 s e.set w' h (by omega)
     generalize ofB s.rules e.set = R at *
     repeat (first | (refine js ?_; (first | (apply Stp_call (h := fun w' hw hO => hof w' (src_rd hZ1 (hO.of (A := rowR R1 r1 _) (by repeat' constructor)) (hO.of (A := rowZ Z1 z1 _) (by repeat' constructor)) (hO.of (A := rowL L1 l1 _) (by repeat' constructor)) (hO.of (A := rowS H1 h1 _) (by repeat' constructor)) (hO.of (A := .fact S1 (ErasAt Zs1)) (by repeat' constructor)))); rfl; rintro v O' ⟨A3, c3, rfl, rfl⟩) | (refine bx ?_; intro bk))) | refine walk ?_)
     refine W_nil 72 2 ?_
     refine W_loopF [(3, .pointer (some ⟨b3, 0, none⟩)), (90, .slice Z1 s.zones.length z1), (91, .int .i64 s.zones.length), (92, .int .i64 i), (97, .slice q.A q.z.eras.length q.c), (98, .int .i64 q.z.eras.length), (99, .int .i64 j), (14, .pointer (some ⟨be, 0, none⟩)), (113, .slice A3 R.length c3), (114, .int .i64 R.length)] [.blk be [.int .i64 e.off, .int .i64 e.kind, .int .i64 e.save, .string e.set, .string e.format, .bool e.til.is, .int .i64 e.til.year, .int .i64 e.til.month, .int .i64 e.til.day.kind, .int .i64 e.til.day.week, .int .i64 e.til.day.day, .int .i64 e.til.at_.sec, .int .i64 e.til.at_.base] 48, .blk b3 [.slice R1 s.rules.length r1, .slice Z1 s.zones.length z1, .slice L1 s.links.length l1, .slice H1 s.shifts.length h1] 31, rowR R1 r1 s.rules, rowZ Z1 z1 Zs1, rowL L1 l1 s.links, rowS H1 h1 s.shifts, .fact S1 (ErasAt Zs1), .row (.slice A3 R.length c3) 39 11 R.length (R.flatMap DRule.enc)] (fun g : MdG => [(15, .slice g.A g.m g.c), (115, .int .i64 g.k)]) (fun g => [.row (.slice g.A g.m g.c) 72 2 g.m g.ys])
      (fun g => g.k ≤ R.length ∧ g.m = g.k ∧ g.ys = ((R.take g.k).map fun r => (r.save, r.letter)).flatMap stEnc) (fun g => R.length - g.k) ⟨0, none, 0, 0, []⟩ SFA SOA ⟨Nat.zero_le _, rfl, rfl⟩ ?_
     rintro ⟨k, A1, c1, m, ys⟩ ⟨hkl, hm, hy⟩
     dsimp only at hkl hm hy ⊢
     repeat (first | (refine js ?_; (refine bx ?_; intro bk)) | refine walk ?_)
     refine W_cond rfl (fun hc => ?_) (fun hc => ?_)
     ·simp only [decide_eq_true_eq, Int.ofNat_lt] at hc
      have hg1 := flat_get DRule.len R k _ 0 _ (List.getElem?_eq_getElem hc) rfl
      have hgn : ∀ j v, (DRule.enc R[k])[j]? = some v → (R.flatMap DRule.enc)[k * 11 + j]? = some v := fun j v hj => flat_get DRule.len R k _ j v (List.getElem?_eq_getElem hc) hj
      have htk := List.take_append_getElem hc
      generalize R[k] = r at *
      simp only [DRule.enc] at hgn hg1
      repeat (first | (apply RL_pu; rfl; (first | (apply Pu_indexAddrH; rfl; rfl; omega; omega; (intro w' _ hO; exact (row_cell (hO.of (A := .row (.slice A3 R.length c3) 39 11 R.length (R.flatMap DRule.enc)) (by repeat' constructor)) hg1).1)) | (apply Pu_loadRN; rfl; (focus repeat' constructor); exact hgn; rfl))) | (refine js ?_; (first | (apply Stp_append; rfl; rfl; (intro A' c'; (focus repeat' constructor)); (intro w' _ hO; exact blkRaw (hO.of (by repeat' constructor))); rfl; rfl; (simp only [maxLen]; omega); omega; intro A' c' hc1 hc2 hc3) | (refine bx ?_; intro bk))) | refine walk1 ?_)
      exact ⟨⟨k + 1, A', c', m + 1, ys ++ [.int .i64 r.save, .string r.letter]⟩, OA, ⟨OA, OA, by dsimp only; rw [hy, ← htk]; simp [stEnc]⟩, SFA, SOA⟩
     ·obtain rfl : k = R.length := by simp only [decide_eq_false_iff_not, Int.ofNat_lt] at hc; omega
      rw [List.take_length] at hy
      subst hm hy
      repeat (first | (refine js ?_; (refine bx ?_; intro bk)) | refine walk ?_)
      exact ⟨rfl, .row (.slice A1 R.length c1) 72 2 R.length ((R.map fun r => (r.save, r.letter)).flatMap stEnc), A1, c1, fun w' hX => rowRd stEnc.len (l := R.map fun r => (r.save, r.letter)) (by rw [List.length_map]; exact hX), SFA, SOA⟩
    ·have hk2 : ¬ e.kind = 2 := of_decide_eq_false h3
     have hst := g1 (by omega)
     rw [hst]
     repeat (first | (refine js ?_; (refine bx ?_; intro bk)) | refine walk ?_)
     exact ⟨rfl, .blk bs [.int .i64 e.save, .string ByteArray.empty] 72, some ⟨bs, 0, none⟩, 1, fun w' hX => litRd (l := [(e.save, ByteArray.empty)]) stEnc.len (Nat.le_refl 1) (by decide) hX, SFA, SOA⟩
   ·rintro fr' O' ⟨X, A, c', hX, hf, hO⟩
    apply thenQ_n
    refine W_sub hf hO ?_
    clear hf hO fr' O' g1 g2
    have hsl : (statesOf s.rules e).length ≤ 1000000 := by
     have hRl : (ofB s.rules e.set).length ≤ 100 := Nat.le_trans (ofB_len _ _) hnr
     unfold statesOf setOf
     split
     ·simp
     ·split
      ·rw [List.length_map]; omega
      ·simp
    repeat (first | (refine js ?_; (refine bx ?_; intro bk)) | refine walk ?_)
    refine W_loopF [(3, .pointer (some ⟨b3, 0, none⟩)), (90, .slice Z1 s.zones.length z1), (91, .int .i64 s.zones.length), (92, .int .i64 i), (97, .slice q.A q.z.eras.length q.c), (98, .int .i64 q.z.eras.length), (99, .int .i64 j), (14, .pointer (some ⟨be, 0, none⟩)), (128, .slice A (statesOf s.rules e).length c'), (129, .int .i64 (statesOf s.rules e).length)] [X, .blk be [.int .i64 e.off, .int .i64 e.kind, .int .i64 e.save, .string e.set, .string e.format, .bool e.til.is, .int .i64 e.til.year, .int .i64 e.til.month, .int .i64 e.til.day.kind, .int .i64 e.til.day.week, .int .i64 e.til.day.day, .int .i64 e.til.at_.sec, .int .i64 e.til.at_.base] 48, .blk b3 [.slice R1 s.rules.length r1, .slice Z1 s.zones.length z1, .slice L1 s.links.length l1, .slice H1 s.shifts.length h1] 31, rowR R1 r1 s.rules, rowZ Z1 z1 Zs1, rowL L1 l1 s.links, rowS H1 h1 s.shifts, .fact S1 (ErasAt Zs1)] (fun m : Nat => [(130, .int .i64 m)]) (fun _ => []) (fun m => m ≤ (statesOf s.rules e).length) (fun m => (statesOf s.rules e).length - m) 0 SFA SOA (Nat.zero_le _) ?_
    generalize statesOf s.rules e = sts at *
    intro m hm
    repeat (first | (refine js ?_; (refine bx ?_; intro bk)) | refine walk ?_)
    refine W_cond rfl (fun h3 => ?_) (fun h3 => ?_)
    ·have hm2 : m < sts.length := by simpa using h3
     obtain ⟨x, hxm⟩ : ∃ x, sts[m]? = some x := ⟨_, List.getElem?_eq_getElem hm2⟩
     have hgx := g3 x (List.mem_of_getElem? hxm)
     obtain ⟨r, hr⟩ : ∃ r, (⟨(abbrF e.format.data.toList e.off x.1 x.2.data.toList).1.toArray⟩ : ByteArray) = r := ⟨_, rfl⟩
     have hrl : (abbrF e.format.data.toList e.off x.1 x.2.data.toList).1.length = r.size := by rw [← hr]; rfl
     obtain ⟨_, a1, a2, a3, a4, a5, a6, _⟩ := hgx
     rw [hrl] at a1 a2
     have t1 : decide ((r.size : Int) < 3) = false := decide_eq_false (by omega)
     have t2 : decide ((7 : Int) < (r.size : Int)) = false := decide_eq_false (by omega)
     have t3 : decide (e.off + x.1 < -54000) = false := decide_eq_false (by omega)
     have t4 : decide ((54000 : Int) < e.off + x.1) = false := decide_eq_false (by omega)
     have hgx := g3 x (List.mem_of_getElem? hxm)
     repeat (first | refine und ?_ | (apply RL_pu; rfl; (first | (apply Pu_indexAddrH; rfl; rfl; omega; omega; (intro w' _ hO; exact ((hX w' (hO.of (A := X) (by repeat' constructor))).rd m _ hxm).1)) | (apply Pu_loadN (cs := stEnc x); rfl; rfl; (intro w' _ hO; exact ((hX w' (hO.of (A := X) (by repeat' constructor))).rd m _ hxm).2)) | (apply Pu_lssB; rfl; rfl; exact t1) | (apply Pu_gtrB; rfl; rfl; exact t2) | (apply Pu_lssB; rfl; rfl; exact t3) | (apply Pu_gtrB; rfl; rfl; exact t4))) | (refine js ?_; (first | (refine callO (fun w' hw hO => abT e x r w' (hL.up hw) (by omega) hgx hr) ?_) | (refine bx ?_; intro bk))) | refine walk1 ?_)
     exact ⟨m + 1, by omega, by omega, SFA, SOA⟩
    ·repeat (first | (refine js ?_; (refine bx ?_; intro bk)) | refine walk ?_)
     exact ⟨j + 1, by omega, by omega, SFA, SOA⟩
  ·repeat (first | (refine js ?_; (refine bx ?_; intro bk)) | refine walk ?_)
   exact ⟨i + 1, by omega, by omega, SFA, SOA⟩
 ·repeat (first | (refine js ?_; (first | (refine callE hwk ?_) | (refine bx ?_; intro bk))) | refine walk ?_)
  exact rtA
end Go.Proofs.YtbjkhnlnedfceaaGreatDoor
