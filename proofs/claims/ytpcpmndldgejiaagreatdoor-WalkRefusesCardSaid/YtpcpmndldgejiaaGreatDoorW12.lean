/- Parts of the proof. -/
import Derived.Test.YtpcpmndldgejiaaGreatDoorW11
import Derived.Test.YtpcpmndldgejiaaGreatDoorW10
import Derived.OrdersIn
set_option maxHeartbeats 4000000
set_option linter.unusedVariables false
set_option linter.unusedSimpArgs false
namespace Go.Wk
open Go Go.RowKit
theorem ZeM {P : Program} {n : Nat} {wr : World} {x y : Code} {Q2 : Exit -> Act -> World -> Prop} {fr : Fr} {O : List It} (I : Fr -> List It -> Prop) (h : W P n wr x (fun e fr O => e = .normal /\ I fr O) fr O) (k : ∀ a w fr' O', St n wr fr' O' a w -> I fr' O' -> y.wp P Q2 a w) :
  ∀ a w, St n wr fr O a w -> (Code.seq x y).wp P Q2 a w := by
 intro a w hs
 refine wp_seq (wp_mono (h a w hs) ?_)
 rintro e a' w' ⟨fr', O', hs', rfl, hi⟩
 exact k a' w' fr' O' hs' hi
theorem St.sub {n : Nat} {wr : World} {fr fr' : Fr} {O O' : List It} {a : Act} {w : World} (h : St n wr fr O a w) (hf : Sub fr' fr) (hO : SubO O' O) : St n wr fr' O' a w := ⟨h.sim.sub hf, h.old, h.own.sub hO⟩
end Go.Wk
namespace Go.Proofs.YtpcpmndldgejiaaGreatDoor
open Go Go.RowKit Go.Wk
attribute [local irreducible] W RL Does Zay Zam retQ Calls Pu Stp RD Qy Ay Zan RLI WI
def Asks (l b1 b2 b3 : Nat) (ok : List UInt8 -> Bool) (OC OF : List It) (wr : World) : Prop :=
 ∀ x rest : ByteArray, (x.size : Int) <= 9223372036854775807 -> Zet Tryz.prog l (.string x) wr (itO b1 b2 b3 rest ⟨#[47]⟩ ++ OC) fun b O' => b = ok x.data.toList /\ (b = true -> SubO (itO b1 b2 b3 rest ⟨#[47]⟩ ++ OC) O') /\ (b = false -> SubO OF O')
theorem Zq5 {G : Prop} (h : G := by (apply Pu_loadB1; rfl; (focus repeat' constructor); rfl)) : G := h
theorem ZmA (l b1 b2 b3 : Nat) (ok : List UInt8 -> Bool) (OC OF : List It) (wr : World) (hY : Asks l b1 b2 b3 ok OC OF wr) (s : ByteArray) (hs : (s.size : Int) <= 9223372036854775807) :
  Zan Tryz.prog 230 [.func (.yield l) #[] #[], .pointer (some ⟨b2, 0, none⟩), .pointer (some ⟨b1, 0, none⟩), .pointer (some ⟨b3, 0, none⟩)] wr (itO b1 b2 b3 s ⟨#[47]⟩ ++ OC)
   (fun v O' => v = .tuple #[] /\ ((ZgN s.data.toList []).all ok = true -> SubO OC O') /\ ((ZgN s.data.toList []).all ok = false -> SubO OF O')) := by
 obtain ⟨res, hres⟩ : ∃ res, (ZgN s.data.toList []).all ok = res := ⟨_, rfl⟩
 rw [hres]
 have hix := fun (t : ByteArray) w' => ZoW t 47 w'
 unfold itO at *
 simp only [List.cons_append, List.nil_append] at *
 refine ZbH Tryz.func230 rfl rfl rfl rfl ?_
 repeat (first | refine walk ?_)
 refine Zaq [(0, .func (.yield l) #[] #[]), (1, .pointer (some ⟨b2, 0, none⟩)), (2, .pointer (some ⟨b1, 0, none⟩)), (3, .pointer (some ⟨b3, 0, none⟩))] [] (fun _ : ByteArray => []) (fun g => .blk b1 [.string g] 9 :: .blk b2 [.string ⟨#[47]⟩] 9 :: .blk b3 [.int .i64 0] 3 :: OC)
  (fun g => (g.size : Int) <= 9223372036854775807 /\ (ZgN g.data.toList []).all ok = res) (fun g => g.size) s SFA ?_ ⟨hs, hres⟩ ?_
 ·rw [List.append_nil]; exact .refl _
 rintro g ⟨hg, hi⟩
 rw [List.append_nil]
 have hfi := Zno g
 rw [Zju] at hi
 cases hc : cutI g.data.toList with
 | none =>
  rw [hc] at hfi hi
  dsimp only at hfi hi
  have hix2 := hix g
  rw [hfi] at hix2
  have hsY := hg
  repeat (first | (apply ZgY; rfl; rfl; rfl; (intro c h; cases h); rfl; (first | (apply Pu_loadB1; rfl; (focus repeat' constructor); rfl) | (apply Pu_move; rfl)); rfl; rfl; exact hY _ _ hsY; rintro b O' ⟨rfl, hb2, hb3⟩) | (apply RL_pu; rfl; exact Zq5) | (refine js ?_; (refine Zac (fun w' _ => hix2 w') ?_)) | refine walk1 ?_)
  refine Zbu ?_
  rw [List.nil_append, List.all_cons, List.all_nil, Bool.and_true] at hi
  refine Zs4 O' (.refl _) ⟨rfl, fun h => ?_, fun h => hb3 (by rw [hi]; exact h)⟩
  exact (SubO.trans (SubO.right (itO b1 b2 b3 g ⟨#[47]⟩) OC) (hb2 (by rw [hi]; exact h)))
 | some i =>
  rw [hc] at hfi hi
  dsimp only at hfi hi
  have hix2 := hix g
  rw [hfi] at hix2
  have hlt := Zy7 hc
  have hsz : g.size = g.data.toList.length := rfl
  have hx0 : (g.extract 0 i).data.toList = g.data.toList.take i := by rw [ByteArray.data_extract]; simp
  have hx1 : (g.extract (i + 1) g.size).data.toList = g.data.toList.drop (i + 1) := by
   rw [ByteArray.data_extract]
   simp only [Array.toList_extract, List.extract_eq_take_drop]
   exact List.take_of_length_le (by rw [List.length_drop]; omega)
  have hi0 : (0 : Int) <= (i : Int) := Int.natCast_nonneg i
  have hi1 : (i : Int) < (g.data.toList.length : Int) := Int.ofNat_lt.2 hlt
  have hsY : ((g.extract 0 i).size : Int) <= 9223372036854775807 := by rw [ByteArray.size_extract]; omega
  repeat (first | (apply ZgY; rfl; rfl; rfl; (intro c h; cases h); rfl; (first | (apply Pu_loadB1; rfl; (focus repeat' constructor); rfl) | (apply Pu_move; rfl)); rfl; rfl; exact hY _ _ hsY; rintro b O' ⟨rfl, hb2, hb3⟩) | (apply RL_pu; rfl; (apply Zk9; rfl; rfl; omega; omega)) | (refine js ?_; (refine Zac (fun w' _ => hix2 w') ?_)) | refine walk1 ?_)
  rw [List.nil_append, List.all_cons] at hi
  have hx2 : (g.extract 0 (Int.toNat ((i : Int) + 0))).data.toList = g.data.toList.take i := by rw [Int.add_zero]; exact hx0
  rw [hx2] at hb2 hb3
  apply ZcS (.inl rfl); rfl; (intro c h; cases h); (apply Pu_not; rfl)
  refine Zbu ?_
  apply thenQ_n
  rw [hx2]
  refine Zah rfl (fun h => ?_) (fun h => ?_)
  ·simp only [Bool.not_eq_true'] at h
   rw [h, Bool.false_and] at hi
   subst hi
   repeat (first | refine walk ?_)
   exact ZzQ O' (.refl _) ⟨rfl, fun h2 => (by cases h2), fun _ => hb3 h⟩
  ·simp only [Bool.not_eq_false'] at h
   rw [h, Bool.true_and] at hi
   have hlen : (((⟨#[47]⟩ : ByteArray).size : Nat) : Int) = 1 := rfl
   have htn : ((i : Int) + (((⟨#[47]⟩ : ByteArray).size : Nat) : Int)).toNat = i + 1 := by rw [hlen]; omega
   refine Zch (fr' := [(7, .int .i64 i), (0, .func (.yield l) #[] #[]), (1, .pointer (some ⟨b2, 0, none⟩)), (2, .pointer (some ⟨b1, 0, none⟩)), (3, .pointer (some ⟨b3, 0, none⟩))]) (O' := .blk b1 [.string g] 9 :: .blk b2 [.string ⟨#[47]⟩] 9 :: .blk b3 [.int .i64 0] 3 :: OC) SFA (hb2 h) ?_
   repeat (first | (apply RL_pu; rfl; (apply Zsl; rfl; rfl; omega; omega)) | refine walk1 ?_)
   refine ⟨g.extract ((i : Int) + (((⟨#[47]⟩ : ByteArray).size : Nat) : Int)).toNat g.size, ?_, ⟨?_, ?_⟩, SFA, ?_⟩
   ·rw [htn, ByteArray.size_extract]; omega
   ·rw [htn, ByteArray.size_extract]; omega
   ·rw [htn, hx1]; exact hi
   ·rw [List.append_nil]; exact .refl _
def okP (s : ByteArray) (l : List UInt8) : Bool := decide (s.size <= 60) && Zwe l
theorem ZyN (s : ByteArray) : (ZgN s.data.toList []).all (okP s) = Zg7 s := by
 have hne : ZgN s.data.toList [] ≠ [] := by
  rw [Zju]; split <;> simp
 unfold Zg7 okP
 by_cases h : s.size <= 60
 ·simp [h]
 ·cases hc : ZgN s.data.toList [] with
  | nil => exact absurd hc hne
  | cons x l => simp [h]
theorem Zwd (l : List UInt8) : Zwe l = (Zde 1 14 31 l && !(match l with | c :: _ => decide (c = 46) || decide (c = 45) | [] => false)) := rfl
def ZAJ (s : ByteArray) (w : World) : Ending -> World -> Prop := fun e w' => ∃ v O, e = .returned v /\ Bel w.heap.size w w' /\ Zax w.heap.size O w' /\ v = .bool (Zg7 s) /\ O = []
theorem Zlo {n : Nat} {wr : World} {fr : Fr} {O : List It} {a : Act} {w : World} {D : Nat} (hs : St n wr fr (Zb5 D :: O) a w) : St n wr fr O a (w.putObj D (.deferred none)) := by
 have hin := hs.own.inb _ List.mem_cons_self D rfl
 refine ⟨hs.sim, hs.old.trans ⟨⟨rfl, rfl, rfl, by rw [Zee]; exact Nat.le_refl _, fun i hi => World.putObj_heap_other (by omega)⟩⟩, hs.own.tail.congr (by rw [Zee]; exact Nat.le_refl _) fun b ⟨i, hi, hb⟩ => World.putObj_heap_other fun e => ?_⟩
 exact (List.pairwise_cons.1 hs.own.sep).1 i hi D rfl (e ▸ hb)
theorem Zkb (s : ByteArray) (w : World) {fr : Fr} {O R : List It} {a : Act} {w' : World} {D br : Nat} {b : Bool} (hs : St 28 w fr (Zb5 D :: O) a w') (h2 : Wk.look fr 2 = some (.pointer (some ⟨br, 0, none⟩))) (hp : Pick (.blk br [.bool b] 4) O R) (hb : b = Zg7 s) :
  bodyPostM Fence.wide 0 Tryz.prog Tryz.f127 (ZAJ s w) .ret (actD (ZeR D) a) w' := by
 have hK := Zb5.at (hs.own.sat _ List.mem_cons_self)
 have hs2 := Zlo hs
 refine ⟨by simp, .inl ⟨_, _, rfl, run_takeDeferred hK, ?_⟩⟩
 refine ⟨.bool b, ?_, _, [], rfl, hs2.old, Zax.nil _ _, by rw [hb], rfl⟩
 have hc : (w'.putObj D (.deferred none)).cell? ⟨br, 0, none⟩ = some (.bool b) := by
  rw [Zcz (hs2.own.of hp)]; rfl
 have hres : Tryz.f127.results = [ResultVar.cell 2 4].toArray := rfl
 show (results Tryz.f127 a.tmps).run Tryz.prog _ = _
 unfold results
 rw [hres, List.mapM_toArray]
 simp only [Sem.run_bind, Sem.run_map]
 rw [Zcq (P := Tryz.prog) hs2 _ (fun _ => rfl) (fun _ _ => rfl) [ResultVar.cell 2 4] [.bool b] ⟨_, [], rfl, ⟨_, h2, fun w3 hB hH => ?_⟩, rfl⟩]
 ·simp only [Result.andThen_ok, Sem.run_pure]
  rfl
 ·rw [Zc7]
  rw [Zcz (hH.of hp)]; rfl
instance : ZeroT Tryz.prog 179 [.nilFunc] := ⟨by kernel_rfl⟩
theorem Zml (s : ByteArray) (hs : (s.size : Int) <= 9223372036854775807) (w : World) : Does Tryz.prog 127 [.string s] w (fun v O => v = .bool (Zg7 s) /\ O = []) := by
 unfold Does
 refine Zle Tryz.func127 rfl rfl rfl ?_
 intro a0 hst
 -- Zab Tryz.func127
 refine ZeM (fun fr' O' => ∃ bs br, Sub [(1, .pointer (some ⟨bs, 0, none⟩)), (2, .pointer (some ⟨br, 0, none⟩))] fr' /\ SubO [.blk bs [.string s] 9, .blk br [.bool false] 4] O') ?_ ?_ a0 w hst
 ·apply W_region
  apply RL_st; rfl; (apply Stp_boxNf; rfl; (focus repeat' constructor); intro bs)
  apply RL_st; rfl; (apply Stp_alloc; intro br)
  apply RL_nil
  exact ⟨rfl, bs, br, SFA, SOA⟩
 rintro a1 w1 fr1 O1 hs0 ⟨bs, br, hf1, hO1⟩
 have hs1 := hs0.sub hf1 hO1
 clear hf1 hO1 hs0 hst a0 fr1 O1
 refine ZeM (fun fr' O' => ∃ bf b1 b2 b3 b4, Sub [(1, .pointer (some ⟨bs, 0, none⟩)), (2, .pointer (some ⟨br, 0, none⟩)), (3, .pointer (some ⟨bf, 0, none⟩))] fr' /\ SubO (.blk bs [.string s] 9 :: .blk br [.bool false] 4 :: .blk bf [ofV b1 b2 b3 b4] 179 :: ofO 1 14 31 b1 b2 b3 b4) O') ?_ ?_ a1 w1 hs1
 ·repeat (first | (refine js ?_; (first | (apply Zag (h := fun w' _ _ => ZgA 1 14 31 w'); rfl; rintro v O' ⟨b1, b2, b3, b4, rfl, rfl⟩) | (refine bx ?_; intro bk))) | refine walk ?_)
  exact ⟨rfl, _, b1, b2, b3, b4, SFA, SOA⟩
 rintro a2 w2 fr2 O2 hs0 ⟨bf, b1, b2, b3, b4, hf2, hO2⟩
 have hs2 := hs0.sub hf2 hO2
 clear hf2 hO2 hs0 hs1 a1 w1 fr2 O2
 refine wp_seq ?_
 refine ZeM (fun fr' O' => ∃ c1 c2 c3, Sub [(1, .pointer (some ⟨bs, 0, none⟩)), (2, .pointer (some ⟨br, 0, none⟩)), (3, .pointer (some ⟨bf, 0, none⟩)), (7, itV c1 c2 c3)] fr' /\ SubO (itO c1 c2 c3 s ⟨#[47]⟩ ++ (.blk bs [.string s] 9 :: .blk br [.bool false] 4 :: .blk bf [ofV b1 b2 b3 b4] 179 :: ofO 1 14 31 b1 b2 b3 b4)) O') ?_ ?_ a2 w2 hs2
 ·repeat (first | (apply RL_pu; rfl; exact Zq5) | (refine js ?_; (first | (apply Zag (h := fun w' _ _ => Zl3 s ⟨#[47]⟩ w'); rfl; rintro v O' ⟨c1, c2, c3, rfl, rfl⟩) | (refine bx ?_; intro bk))) | refine walk1 ?_)
  exact ⟨rfl, c1, c2, c3, SFA, .refl _⟩
 rintro a3 w3 fr3 O3 hs0 ⟨c1, c2, c3, hf3, hO3⟩
 have hs3 := hs0.sub hf3 hO3
 clear hf3 hO3 hs0 hs2 a2 w2 fr3 O3
 refine wp_block ?_
 refine Zlv (gf := 230) (lb := [.pointer (some ⟨c2, 0, none⟩), .pointer (some ⟨c1, 0, none⟩), .pointer (some ⟨c3, 0, none⟩)]) (fun jump O2 => SubO [.blk br [.bool false] 4] O2 /\ ((jump = none /\ Zg7 s = true) \/ (jump = some .ret /\ Zg7 s = false))) hs3 rfl ?_ ?_
 ·intro fn l D
  generalize hr : Zgx fn a3.tmps 8 _ _ D = r
  have hit := ZmA l c1 c2 c3 (okP s) (Za7 l r :: Zb5 D :: .blk bs [.string s] 9 :: .blk br [.bool false] 4 :: .blk bf [ofV b1 b2 b3 b4] 179 :: ofO 1 14 31 b1 b2 b3 b4) (Za7 l { r with state := .done, pending := some .ret } :: Zb5 D :: [.blk br [.bool false] 4]) w ?_ s hs
  ·refine hit.sub (by unfold itO ofO; exact SOA) fun v O' ⟨_, h1, h2⟩ => ?_
   rw [ZyN] at h1 h2
   cases hz : Zg7 s with
   | true => exact ⟨none, _, .ready, SubO.trans (by rw [<- hr]; exact .refl _) (h1 hz), by decide, SOA, .inl ⟨rfl, rfl⟩⟩
   | false => exact ⟨some .ret, _, .done, h2 hz, by decide, .refl _, .inr ⟨rfl, rfl⟩⟩
  ·intro x rest hx
   refine ZhG (r := r) (p := 8) (fr := [(1, .pointer (some ⟨bs, 0, none⟩)), (2, .pointer (some ⟨br, 0, none⟩)), (3, .pointer (some ⟨bf, 0, none⟩)), (7, itV c1 c2 c3)]) (a0 := a3) (O1 := itO c1 c2 c3 rest ⟨#[47]⟩ ++ (Za7 l { r with state := .busy } :: Zb5 D :: .blk bs [.string s] 9 :: .blk br [.bool false] 4 :: .blk bf [ofV b1 b2 b3 b4] 179 :: ofO 1 14 31 b1 b2 b3 b4)) (by rw [<- hr]; rfl) (by rw [<- hr]; rfl) (by rw [<- hr]; rfl) hs3.sim rfl (by unfold itO; exact (by repeat' constructor)) (by rw [<- hr]; rfl) ?_
   apply ZcS (Or.inr ⟨_, rfl⟩); rfl; (intro c h; cases h); (apply Pu_assign; rfl)
   refine Zbu ⟨rfl, ?_⟩
   have hbody : ∀ Q fr O, (∀ b : Code, b = r.body -> WI (Fence.wide.inRound l) [] Tryz.prog 28 w b Q fr O) -> WI (Fence.wide.inRound l) [] Tryz.prog 28 w r.body Q fr O := fun Q fr O h => h _ rfl
   refine hbody _ _ _ fun b hb => ?_
   rw [<- hr] at hb
   dsimp only [Zgx] at hb
   subst hb
   unfold itO ofO
   simp only [List.cons_append, List.nil_append]
   refine Zl1 (ZbY (Zb1 ?_))
   have hsx : (s.size : Int) <= 9223372036854775807 := hs
   by_cases hlong : (60 : Int) < (s.size : Int)
   ·have h60 : decide ((60 : Int) < (s.size : Int)) = true := decide_eq_true hlong
    have hbad : false = okP s x.data.toList := by
     unfold okP; rw [decide_eq_false (by omega), Bool.false_and]
    repeat (first | (apply ZcS (Or.inr ⟨_, rfl⟩); rfl; (intro c h; cases h); (first | (apply Pu_loadB1; rfl; (focus repeat' constructor); rfl) | (apply Pu_lenS; rfl) | (apply ZaN; rfl; rfl; exact h60) | (apply Pu_move; rfl) | (apply Pu_not; rfl) | (apply Pu_pickT; rfl; rfl) | (apply Pu_pickF; rfl; rfl))) | (refine ZjP rfl rfl rfl ?_) | (refine ZnX (Or.inr ⟨_, rfl⟩) rfl rfl rfl rfl rfl ?_) | (refine Zbu ?_))
    refine thenQ_n ?_
    refine ZbG rfl (fun _ => ?_) (fun h => by cases h)
    refine ZbY (Zb1 ?_)
    apply Zci (Or.inr ⟨_, rfl⟩); (intro d hd; cases hd); (intro c h; cases h); (intro a w hs; exact Zd4 a w)
    (apply Stp_storeNf; rfl; rfl; (focus repeat' constructor); (focus repeat (first | exact Nf.nil | apply Nf.cons)); rfl; rfl; rfl; (focus repeat' constructor))
    refine Zbu ?_
    refine thenQ_n ?_
    refine ZhW ?_
    refine blockQ_r ?_
    exact ⟨_, (by repeat' constructor), hbad, fun h => (by cases h), fun _ => SOA⟩
   have h60 : decide ((60 : Int) < (s.size : Int)) = false := decide_eq_false hlong
   have hok : okP s x.data.toList = Zwe x.data.toList := by
    unfold okP; rw [decide_eq_true (by omega), Bool.true_and]
   have hoc := fun {base : Nat} {O : List It} {w' : World} (hH : Zax base O w') (hO : SubO (ofO 1 14 31 b1 b2 b3 b4) O) => ZlA (a := 1) (b := 14) (m := 31) hx (by decide) hH hO
   rw [hok, Zwd]
   cases hn : Zde 1 14 31 x.data.toList with
   | false =>
    rw [hn] at hoc
    have hbad : false = (false && !(match x.data.toList with | c :: _ => decide (c = 46) || decide (c = 45) | [] => false)) := rfl
    repeat (first | (apply ZcS (Or.inr ⟨_, rfl⟩); rfl; (intro c h; cases h); (first | (apply Pu_loadB1; rfl; (focus repeat' constructor); rfl) | (apply Pu_lenS; rfl) | (apply ZaN; rfl; rfl; exact h60) | (apply Pu_move; rfl) | (apply Pu_not; rfl) | (apply Pu_pickT; rfl; rfl) | (apply Pu_pickF; rfl; rfl))) | (refine ZjP rfl rfl rfl ?_) | (refine ZnX (Or.inr ⟨_, rfl⟩) rfl rfl rfl rfl rfl ?_) | (apply Zci (Or.inr ⟨_, rfl⟩); (intro d hd; cases hd; rfl); (intro c h; cases h); (intro a w hs; exact Zfp (f := 167) (us := []) (cs := [.pointer (some ⟨b1, 0, none⟩), .pointer (some ⟨b2, 0, none⟩), .pointer (some ⟨b3, 0, none⟩), .pointer (some ⟨b4, 0, none⟩)]) hs rfl); (apply Zar (f := 167) (us := []) (vs := [.string x]) (cs := [.pointer (some ⟨b1, 0, none⟩), .pointer (some ⟨b2, 0, none⟩), .pointer (some ⟨b3, 0, none⟩), .pointer (some ⟨b4, 0, none⟩)]) (h := fun w' _ hH => hoc hH (by unfold ofO; exact SOA)); rfl; rfl; rintro v O' ⟨rfl, rfl⟩)) | (refine Zbu ?_))
    refine thenQ_n ?_
    refine ZbG rfl (fun _ => ?_) (fun h => by cases h)
    refine ZbY (Zb1 ?_)
    apply Zci (Or.inr ⟨_, rfl⟩); (intro d hd; cases hd); (intro c h; cases h); (intro a w hs; exact Zd4 a w)
    (apply Stp_storeNf; rfl; rfl; (focus repeat' constructor); (focus repeat (first | exact Nf.nil | apply Nf.cons)); rfl; rfl; rfl; (focus repeat' constructor))
    refine Zbu ?_
    refine thenQ_n ?_
    refine ZhW ?_
    refine blockQ_r ?_
    exact ⟨_, (by repeat' constructor), hbad, fun h => (by cases h), fun _ => SOA⟩
   | true =>
    rw [hn] at hoc
    have hsz := (Zky hn).1
    have hxz : (0 : Int) < (x.size : Int) := by omega
    cases hxl : x.data.toList with
    | nil =>
     exfalso
     have h0 : x.size = 0 := by
      have : x.size = x.data.toList.length := rfl
      rw [this, hxl]; rfl
     omega
    | cons c tl =>
    have hxc : x.data.toList.getD (Int.toNat 0) 0 = c := by rw [hxl]; rfl
    dsimp only
    by_cases h46 : c = 46
    ·subst h46
     have e46 : decide (((46 : UInt8).toNat : Int) = 46) = true := by decide
     have e45 := e46
     have hbad : false = (true && !(decide ((46 : UInt8) = 46) || decide ((46 : UInt8) = 45))) := by decide
     repeat (first | (apply ZcS (Or.inr ⟨_, rfl⟩); rfl; (intro c h; cases h); (first | (apply Pu_loadB1; rfl; (focus repeat' constructor); rfl) | (apply Pu_lenS; rfl) | (apply ZaN; rfl; rfl; exact h60) | (apply Pu_move; rfl) | (apply Pu_not; rfl) | (apply Pu_pickT; rfl; rfl) | (apply Pu_pickF; rfl; rfl) | (apply Zg2; rfl; rfl; decide; exact hxz; exact hxc) | (apply ZaG; rfl; rfl; first | exact e46 | exact e45))) | (refine ZjP rfl rfl rfl ?_) | (refine ZnX (Or.inr ⟨_, rfl⟩) rfl rfl rfl rfl rfl ?_) | (apply Zci (Or.inr ⟨_, rfl⟩); (intro d hd; cases hd; rfl); (intro c h; cases h); (intro a w hs; exact Zfp (f := 167) (us := []) (cs := [.pointer (some ⟨b1, 0, none⟩), .pointer (some ⟨b2, 0, none⟩), .pointer (some ⟨b3, 0, none⟩), .pointer (some ⟨b4, 0, none⟩)]) hs rfl); (apply Zar (f := 167) (us := []) (vs := [.string x]) (cs := [.pointer (some ⟨b1, 0, none⟩), .pointer (some ⟨b2, 0, none⟩), .pointer (some ⟨b3, 0, none⟩), .pointer (some ⟨b4, 0, none⟩)]) (h := fun w' _ hH => hoc hH (by unfold ofO; exact SOA)); rfl; rfl; rintro v O' ⟨rfl, rfl⟩)) | (refine Zbu ?_))
     refine thenQ_n ?_
     refine ZbG rfl (fun _ => ?_) (fun h => by cases h)
     refine ZbY (Zb1 ?_)
     apply Zci (Or.inr ⟨_, rfl⟩); (intro d hd; cases hd); (intro c h; cases h); (intro a w hs; exact Zd4 a w)
     (apply Stp_storeNf; rfl; rfl; (focus repeat' constructor); (focus repeat (first | exact Nf.nil | apply Nf.cons)); rfl; rfl; rfl; (focus repeat' constructor))
     refine Zbu ?_
     refine thenQ_n ?_
     refine ZhW ?_
     refine blockQ_r ?_
     exact ⟨_, (by repeat' constructor), hbad, fun h => (by cases h), fun _ => SOA⟩
    have hne46 : (c.toNat : Int) ≠ 46 := fun e => h46 (UInt8.toNat_inj.1 (by show c.toNat = 46; omega))
    by_cases h45 : c = 45
    ·subst h45
     have e46 : decide (((45 : UInt8).toNat : Int) = 46) = false := by decide
     have e45 : decide (((45 : UInt8).toNat : Int) = 45) = true := by decide
     have hbad : false = (true && !(decide ((45 : UInt8) = 46) || decide ((45 : UInt8) = 45))) := by decide
     repeat (first | (apply ZcS (Or.inr ⟨_, rfl⟩); rfl; (intro c h; cases h); (first | (apply Pu_loadB1; rfl; (focus repeat' constructor); rfl) | (apply Pu_lenS; rfl) | (apply ZaN; rfl; rfl; exact h60) | (apply Pu_move; rfl) | (apply Pu_not; rfl) | (apply Pu_pickT; rfl; rfl) | (apply Pu_pickF; rfl; rfl) | (apply Zg2; rfl; rfl; decide; exact hxz; exact hxc) | (apply ZaG; rfl; rfl; first | exact e46 | exact e45))) | (refine ZjP rfl rfl rfl ?_) | (refine ZnX (Or.inr ⟨_, rfl⟩) rfl rfl rfl rfl rfl ?_) | (apply Zci (Or.inr ⟨_, rfl⟩); (intro d hd; cases hd; rfl); (intro c h; cases h); (intro a w hs; exact Zfp (f := 167) (us := []) (cs := [.pointer (some ⟨b1, 0, none⟩), .pointer (some ⟨b2, 0, none⟩), .pointer (some ⟨b3, 0, none⟩), .pointer (some ⟨b4, 0, none⟩)]) hs rfl); (apply Zar (f := 167) (us := []) (vs := [.string x]) (cs := [.pointer (some ⟨b1, 0, none⟩), .pointer (some ⟨b2, 0, none⟩), .pointer (some ⟨b3, 0, none⟩), .pointer (some ⟨b4, 0, none⟩)]) (h := fun w' _ hH => hoc hH (by unfold ofO; exact SOA)); rfl; rfl; rintro v O' ⟨rfl, rfl⟩)) | (refine Zbu ?_))
     refine thenQ_n ?_
     refine ZbG rfl (fun _ => ?_) (fun h => by cases h)
     refine ZbY (Zb1 ?_)
     apply Zci (Or.inr ⟨_, rfl⟩); (intro d hd; cases hd); (intro c h; cases h); (intro a w hs; exact Zd4 a w)
     (apply Stp_storeNf; rfl; rfl; (focus repeat' constructor); (focus repeat (first | exact Nf.nil | apply Nf.cons)); rfl; rfl; rfl; (focus repeat' constructor))
     refine Zbu ?_
     refine thenQ_n ?_
     refine ZhW ?_
     refine blockQ_r ?_
     exact ⟨_, (by repeat' constructor), hbad, fun h => (by cases h), fun _ => SOA⟩
    have hne45 : (c.toNat : Int) ≠ 45 := fun e => h45 (UInt8.toNat_inj.1 (by show c.toNat = 45; omega))
    have e46 : decide ((c.toNat : Int) = 46) = false := decide_eq_false hne46
    have e45 : decide ((c.toNat : Int) = 45) = false := decide_eq_false hne45
    have hgood : true = (true && !(decide (c = 46) || decide (c = 45))) := by rw [decide_eq_false h46, decide_eq_false h45]; rfl
    repeat (first | (apply ZcS (Or.inr ⟨_, rfl⟩); rfl; (intro c h; cases h); (first | (apply Pu_loadB1; rfl; (focus repeat' constructor); rfl) | (apply Pu_lenS; rfl) | (apply ZaN; rfl; rfl; exact h60) | (apply Pu_move; rfl) | (apply Pu_not; rfl) | (apply Pu_pickT; rfl; rfl) | (apply Pu_pickF; rfl; rfl) | (apply Zg2; rfl; rfl; decide; exact hxz; exact hxc) | (apply ZaG; rfl; rfl; first | exact e46 | exact e45))) | (refine ZjP rfl rfl rfl ?_) | (refine ZnX (Or.inr ⟨_, rfl⟩) rfl rfl rfl rfl rfl ?_) | (apply Zci (Or.inr ⟨_, rfl⟩); (intro d hd; cases hd; rfl); (intro c h; cases h); (intro a w hs; exact Zfp (f := 167) (us := []) (cs := [.pointer (some ⟨b1, 0, none⟩), .pointer (some ⟨b2, 0, none⟩), .pointer (some ⟨b3, 0, none⟩), .pointer (some ⟨b4, 0, none⟩)]) hs rfl); (apply Zar (f := 167) (us := []) (vs := [.string x]) (cs := [.pointer (some ⟨b1, 0, none⟩), .pointer (some ⟨b2, 0, none⟩), .pointer (some ⟨b3, 0, none⟩), .pointer (some ⟨b4, 0, none⟩)]) (h := fun w' _ hH => hoc hH (by unfold ofO; exact SOA)); rfl; rfl; rintro v O' ⟨rfl, rfl⟩)) | (refine Zbu ?_))
    refine thenQ_n ?_
    refine ZbG rfl (fun h => by cases h) (fun _ => ?_)
    refine Zeu ?_
    refine blockQ_n ?_
    exact ⟨_, (by repeat' constructor), hgood, fun _ => SubO.trans (by rw [<- hr]; exact .refl _) (.refl _), fun h => (by cases h)⟩
 ·rintro jump O2 D w4 ⟨hsub, ⟨rfl, hz⟩ | ⟨rfl, hz⟩⟩ hs4
  ·have hs5 : St 28 w [(2, .pointer (some ⟨br, 0, none⟩))] [Zb5 D, .blk br [.bool false] 4] a3 w4 := hs4.sub SFA (.cons .here hsub)
   show (Code.seq _ _).wp _ _ _ _
   have key : ∀ c Q' Q3, WI Fence.wide (ZeR D) Tryz.prog 28 w c Q' [(2, .pointer (some ⟨br, 0, none⟩))] [Zb5 D, .blk br [.bool false] 4] -> (∀ e a' w', Ztx (ZeR D) 28 w Q' e a' w' -> Q3 e a' w') -> c.wp Tryz.prog Q3 (actD (ZeR D) a3) w4 := fun c Q' Q3 h hq => (wpIn_wide (n := 0)).1 (wpIn_mono (h.at hs5) hq)
   refine key _ (fun e fr O => e = .ret /\ Sub [(2, .pointer (some ⟨br, 0, none⟩))] fr /\ SubO [Zb5 D, .blk br [.bool true] 4] O) _ (ZbY (Zb1 ?_)) ?_
   ·apply Zci (.inl rfl); (intro d hd; cases hd); (intro c h; cases h); (intro a w hs; exact Zd4 a w)
    (apply Stp_storeNf; rfl; rfl; (focus repeat' constructor); (focus repeat (first | exact Nf.nil | apply Nf.cons)); rfl; rfl; rfl; (focus repeat' constructor))
    refine Zbu ?_
    refine thenQ_n ?_
    refine ZhW ?_
    exact ⟨rfl, SFA, .refl _⟩
   ·rintro e a' w' ⟨hd, fr', O', hs', rfl, hf, hO⟩
    have h := Zkb s w (hs'.sub hf hO) rfl (.here) hz.symm
    rw [Zd5 hd] at h
    exact h
  ·have hs5 : St 28 w [(2, .pointer (some ⟨br, 0, none⟩))] [Zb5 D, .blk br [.bool false] 4] a3 w4 := hs4.sub SFA (.cons .here hsub)
   refine wp_ret ?_
   exact Zkb s w hs5 rfl .here hz.symm
end Go.Proofs.YtpcpmndldgejiaaGreatDoor
set_option maxHeartbeats 2000000
namespace Go.Wk
open Go Go.RowKit
theorem Zok {P : Program} {n : Nat} {f : FuncId} {fn : Func} {c : Code} {args : List Value} {wr w : World} {O : List It} {R : Ending -> World -> Prop} (hf : P.funcs[f]? = some fn) (hb : fn.body = some c) (hn : fn.ntmps = n) (ha : Nat.ble args.length n = true)
  (hB : Bel wr.heap.size wr w) (hH : Zax wr.heap.size O w) (h : ∀ a, St n wr (Zfa 0 args) O a w -> c.wp P (bodyPostM Fence.wide 0 P fn R) a w) : Calls P f args.toArray w R := by
 refine (callsIn_wide (n := 0)).1 (callsIn_of_wp_marks hf hb trivial ?_)
 refine (wpIn_wide (n := 0)).2 (h _ ?_)
 have ha' : args.length <= n := Nat.le_of_ble_eq_true ha
 refine ⟨⟨rfl, by simp; omega, fun t v hv => ?_⟩, hB, hH⟩
 have := (Zdg args 0 t v hv).2
 simp only [Nat.sub_zero] at this
 have hlt : t < args.length := (List.getElem?_eq_some_iff.1 this).1
 rw [Array.getElem?_append_left (by simpa using hlt)]
 simpa using this
theorem Zpe {P : Program} {dst : Option Tmp} {x y : Operand} {ts : Array TypeId} {ty : TypeId} {pos : String} {af : Array Edge} {g : Option (Nat × Bool)} (a : Act) (w : World) : calm ((execOp a.eval ⟨dst, .call ⟨.builtin .append, #[x, y], ts⟩, ty, pos, af, g⟩).run P w) := by
 simp only [execOp, resolve, invoke, builtin, Sem.run_bind, Sem.run_pure, Result.andThen_ok]
 generalize Sem.run P _ w = r
 cases r <;> simp [calm, Result.andThen]
end Go.Wk
namespace Go.Proofs.YtpcpmndldgejiaaGreatDoor
open Go Go.RowKit Go.Wk
attribute [local irreducible] W RL Does Zay Zam retQ Calls Pu Stp RD Qy Ay Zan RLI WI
def Zy1 (A : Option Addr) (n c : Nat) (v : Value) (O : List It) : Prop := ∃ bl, v = .func (.func 236) #[] #[.pointer (some ⟨bl, 0, none⟩)] /\ O = [.blk bl [.slice A n c] 29]
theorem Zo2 (A : Option Addr) (n c : Nat) (w : World) : Does Tryz.prog 214 [.slice A n c] w (Zy1 A n c) := by
 refine Zab Tryz.func214 rfl rfl rfl rfl ?_
 repeat (first | (refine js ?_; (refine bx ?_; intro bk)) | refine walk ?_)
 exact ret_1 _ [.blk bk [.slice A n c] 29] (.tmp rfl) SOA ⟨bk, rfl, rfl⟩
structure FiG (σ : Type) where
 k : Nat
 d : List Zad
 s : σ
set_option maxRecDepth 20000
theorem Zyl {G : Prop} (h : G := by (apply Pu_loadB1; rfl; (focus repeat' constructor); rfl)) : G := h
set_option maxHeartbeats 4000000 in
theorem Znj {σ : Type} (L bl : Nat) (A : Option Addr) (c : Nat) (l : List Zaa) (OC : σ -> List It) (Inv : List Zad -> σ -> Prop) (wr : World) (s0 : σ) (h0 : Inv [] s0) (hG : Glob wr) (hA : RdSl wr A c Zaa.enc 11 l) (hn : l.length <= 1000000) (hR : ∀ r ∈ l, -4611686018427387904 <= r.save /\ r.save <= 4611686018427387904) (hF : ∀ r ∈ l, r.from_ <= 4611686018427387904)
  (hY : ∀ (d : List Zad) (e : Zad) (s : σ) (X Y : It), (∃ (k : Nat) (r : Zaa), l[k]? = some r /\ e.rule = k) -> Inv d s -> Zet Tryz.prog L (.agg e.enc.toArray) wr (X :: Y :: OC s) fun bb O' => bb = true /\ ∃ s', Inv (d ++ [e]) s' /\ SubO (X :: Y :: OC s') O') :
  Zan Tryz.prog 236 [.func (.yield L) #[] #[], .pointer (some ⟨bl, 0, none⟩)] wr (.blk bl [.slice A l.length c] 29 :: OC s0)
   (fun v O' => v = .tuple #[] /\ ∃ s', Inv (firL (Zak l) l 0) s' /\ SubO (.blk bl [.slice A l.length c] 29 :: OC s') O') := by
 have hon := fun (i : Nat) r (hi : l[i]? = some r) y w' (hw : Bel wr.heap.size wr w') => ZgJ A c l i y r w' (hG.up hw) (hA.up hw) hi hn hR
 have hru : ∀ (r : Zaa) (i y : Int) e, onR (Zak l) r i y = some e -> e.rule = i := fun r i y e h => by
  unfold onR at h
  split at h
  ·cases h
  ·split at h
   ·cases h
   ·cases h; rfl
 generalize Zak l = least at *
 obtain ⟨res, hres⟩ : ∃ res, firL least l 0 = res := ⟨_, rfl⟩
 rw [hres]
 have hle := hA.le
 have hcp := hA.cap
 simp only [maxLen] at hcp
 refine ZbH Tryz.func236 rfl rfl rfl rfl ?_
 repeat (first | (refine js ?_; (refine bx ?_; intro bk)) | refine walk ?_)
 refine Zaq [(0, .func (.yield L) #[] #[]), (1, .pointer (some ⟨bl, 0, none⟩)), (9, .slice A l.length c), (10, .int .i64 l.length)] [] (fun g : FiG σ => [(11, .int .i64 g.k)]) (fun g => .blk bl [.slice A l.length c] 29 :: OC g.s) (fun g => g.k <= l.length /\ Inv g.d g.s /\ g.d ++ firL least (l.drop g.k) g.k = res) (fun g => l.length - g.k) ⟨0, [], s0⟩ SFA ?_ ⟨Nat.zero_le _, h0, by dsimp only; rw [List.drop_zero, List.nil_append]; exact hres⟩ ?_
 ·rw [List.append_nil]; exact .refl _
 clear hres
 rintro ⟨k, d, s⟩ ⟨hk, hi, hd⟩
 dsimp only at hk hi hd ⊢
 rw [List.append_nil]
 repeat (first | (refine js ?_; (refine bx ?_; intro bk)) | refine walk ?_)
 refine Zah rfl (fun hc => ?_) (fun hc => ?_)
 ·have hkl : k < l.length := by simpa using hc
  have hge := List.getElem?_eq_getElem hkl
  obtain ⟨hna, hca⟩ := hA.rd k _ hge
  have hfr := hF _ (List.getElem_mem hkl)
  rw [Zat hkl, firL] at hd
  generalize l[k] = r at *
  obtain ⟨f0, hf0⟩ : ∃ f0, max r.from_ (-2000000000) = f0 := ⟨_, rfl⟩
  have hmx : (if r.from_ < -2000000000 then -2000000000 else r.from_) = f0 := by rw [<- hf0]; split <;> omega
  have hfb : -2000000000 <= f0 /\ f0 <= 4611686018427387904 := by omega
  rw [hf0] at hd
  have hon1 := hon k r hge
  obtain ⟨r1, hr1⟩ : ∃ r1, fiIn least r k f0 9 = r1 := ⟨_, rfl⟩
  rw [hr1] at hd
  obtain ⟨nm, fr, to, mo, ⟨dk, dw, dd⟩, ⟨cs, cb⟩, sv, le⟩ := r
  change Zao wr _ [.string nm, .int .i64 fr, .int .i64 to, .int .i64 mo, .int .i64 dk, .int .i64 dw, .int .i64 dd, .int .i64 cs, .int .i64 cb, .int .i64 sv, .string le] at hca
  dsimp only at hmx
  repeat (first | (refine js ?_; (refine bx ?_; intro bk)) | refine Zll ?_)
  refine W_block ?_
  repeat (first | (apply RL_pu; rfl; (first | exact PuI | (apply ZhA; rfl; rfl; exact hmx))) | (refine js ?_; (refine bx ?_; intro bk)) | refine walkB1 ?_)
  refine Zb0 (fun fr' O' => ∃ s', Inv (d ++ r1.toList) s' /\ Sub [(0, .func (.yield L) #[] #[]), (1, .pointer (some ⟨bl, 0, none⟩)), (9, .slice A l.length c), (10, .int .i64 l.length), (11, .int .i64 k)] fr' /\ SubO (.blk bl [.slice A l.length c] 29 :: OC s') O') ?_ ?_
  ·repeat (first | (refine js ?_; (refine bx ?_; intro bk)) | refine walk ?_)
   refine Zaq [(0, .func (.yield L) #[] #[]), (1, .pointer (some ⟨bl, 0, none⟩)), (3, .int .i64 k), (5, .int .i64 f0), (9, .slice A l.length c), (10, .int .i64 l.length), (11, .int .i64 k)] [] (fun g : Nat × Int => [(6, .int .i64 g.2)]) (fun _ => .blk bl [.slice A l.length c] 29 :: OC s) (fun g => g.1 <= 9 /\ g.2 = f0 + g.1 /\ fiIn least ⟨nm, fr, to, mo, ⟨dk, dw, dd⟩, ⟨cs, cb⟩, sv, le⟩ k g.2 (9 - g.1) = r1) (fun g => 9 - g.1) (0, f0) SFA ?_ ⟨Nat.zero_le _, by simp, hr1⟩ ?_
   ·rw [List.append_nil]
    exact .drop (.refl _)
   clear hr1
   rintro ⟨j, y⟩ ⟨hj, hy, hf⟩
   dsimp only at hj hy hf ⊢
   rw [List.append_nil]
   repeat (first | (refine js ?_; (refine bx ?_; intro bk)) | refine walk ?_)
   refine Zah rfl (fun hc2 => ?_) (fun hc2 => ?_)
   ·have hj9 : j < 9 := by have := of_decide_eq_true hc2; omega
    rw [show 9 - j = (8 - j) + 1 by omega, fiIn] at hf
    have ho := hon1 y
    have hro := hru ⟨nm, fr, to, mo, ⟨dk, dw, dd⟩, ⟨cs, cb⟩, sv, le⟩ k y
    generalize onR least _ k y = o at *
    cases o with
    | none =>
     simp only [evV, Zad.enc, dEv0, Option.isSome] at ho hf
     repeat (first | (apply RL_pu; rfl; exact Zyl) | (refine js ?_; (first | (refine Zac ho ?_) | (refine bx ?_; intro bk))) | refine walk1 ?_)
     refine ⟨(j + 1, y + 1), OA, ⟨OA, by dsimp only; omega, by dsimp only; rw [show 9 - (j + 1) = 8 - j by omega]; exact hf⟩, SFA, ?_⟩
     exact .drop (.refl _)
    | some e =>
     have her := hro e rfl
     obtain ⟨ey, er, en⟩ := e
     simp only [evV, Zad.enc, Option.isSome] at ho hf her
     subst hf
     repeat (first | (apply ZgY; rfl; rfl; rfl; (intro c h; cases h); rfl; (apply Pu_loadNf; rfl; (focus repeat' constructor); exact NfA; rfl); rfl; rfl; exact hY d ⟨ey, er, en⟩ s _ _ ⟨k, _, hge, her⟩ hi; rintro bb O' ⟨rfl, s', hi', hO'⟩) | (apply RL_pu; rfl; exact Zyl) | (refine js ?_; (first | (refine Zac ho ?_) | (refine bx ?_; intro bk))) | refine walk1 ?_)
     apply ZcS (.inl rfl); rfl; (intro c h; cases h); (apply Pu_not; rfl)
     refine Zbu ?_
     apply thenQ_n
     refine Zah rfl (fun h => (by cases h)) (fun h => ?_)
     repeat (first | (refine js ?_; (refine bx ?_; intro bk)) | refine walk ?_)
     exact ⟨rfl, s', hi', SFA, SubO.trans (.drop (.refl _)) hO'⟩
   ·obtain rfl : j = 9 := by have := of_decide_eq_false hc2; omega
    obtain rfl : none = r1 := hf
    repeat (first | (refine js ?_; (refine bx ?_; intro bk)) | refine walk ?_)
    exact ⟨rfl, s, by rw [Option.toList, List.append_nil]; exact hi, SFA, .refl _⟩
  ·rintro fr' O' ⟨s', hi', hf', hO'⟩
   apply blockQ_n
   apply thenQ_n
   refine Zch hf' hO' ?_
   repeat (first | (refine js ?_; (refine bx ?_; intro bk)) | refine walk ?_)
   exact ⟨⟨k + 1, d ++ r1.toList, s'⟩, OA, ⟨OA, hi', by dsimp only; rw [List.append_assoc]; exact hd⟩, SFA, by rw [List.append_nil]; exact .refl _⟩
 ·obtain rfl : k = l.length := by simp only [decide_eq_false_iff_not, Int.ofNat_lt] at hc; omega
  rw [List.drop_length, firL, List.append_nil] at hd
  subst hd
  repeat (first | (refine js ?_; (refine bx ?_; intro bk)) | refine walk ?_)
  exact Zs4 _ (.refl _) ⟨rfl, s, hi, .refl _⟩
end Go.Proofs.YtpcpmndldgejiaaGreatDoor
namespace Go.Wk
open Go Go.RowKit
def ZkV : Op -> Bool
 | .move _ | .assign _ | .pick .. | .alloc _ | .box .. | .build .. | .load .. | .store .. | .binOp .. | .unOp .. | .convert .. | .fieldAddr .. | .field .. | .indexAddr .. | .index .. => true
 | _ => false
theorem Zxk {P : Program} (s : Sem Value) (w : World) : calm ((do pure (.value (<- s)) : Sem Next).run P w) := by
 simp only [Sem.run_bind]
 generalize s.run P w = r
 cases r <;> simp [calm, Result.andThen]
theorem Zxl {P : Program} (s : Sem Unit) (w : World) : calm ((do s; pure .skip : Sem Next).run P w) := by
 simp only [Sem.run_bind]
 generalize s.run P w = r
 cases r <;> simp [calm, Result.andThen]
theorem ZcM {P : Program} {ρ : Operand -> Value} {o : Oper} (h : ZkV o.op = true) (w : World) : calm ((execOp ρ o).run P w) := by
 obtain ⟨dst, op, ty, pos, af, g⟩ := o
 cases op <;> first | (cases h; done) | exact Zxk _ w | exact Zxl _ w | skip
 case move x => simp [execOp, calm]
 case assign x => simp [execOp, calm]
 case pick c a b =>
  simp only [execOp, Sem.run_bind]
  generalize (asBool _).run P w = r
  cases r <;> simp [calm, Result.andThen]
theorem ZnM {o : Oper} (h : ZkV o.op = true) : ∀ c, o.op ≠ .defer c := by
 intro c hc
 rw [hc] at h
 cases h
theorem Zli {F : Fence} (hF : WF F) {n : Nat} {P : Program} {o : Oper} {a a2 : Act} {w : World} {K K2 : Act -> World -> Prop} {Q Q2 : Exit -> Act -> World -> Prop} (he : a2.eval = a.eval) (hd : ∀ c, o.op ≠ .defer c) (hc : calm ((execOp a.eval o).run P w)) (h : o.wp P a w K Q) (hQ : ∀ e a w, Q e a w -> e = .normal)
  (hK : ∀ v w', K (a.put o.dst v) w' -> K2 (a2.put o.dst v) w') : o.wpIn F n P a2 w K2 Q2 := by
 refine ⟨fun f _ => hF.fn f, ?_⟩
 rw [Oper.semAt_eq _ _ _ hd, he]
 unfold Oper.wp at h
 generalize (execOp a.eval o).run P w = r at *
 cases r with
 | ok nx w' =>
  cases nx with
  | value v => exact hK _ _ h
  | skip => exact hK _ _ h
  | enter f args =>
   rw [Oper.upon_enter] at h
   rw [Oper.uponIn_enter]
   refine ⟨fun hh => (by rw [hF.depth] at hh; cases hh), (hF.calls h).mono ?_⟩
   intro e w'' he
   cases e with
   | returned v => exact hK _ _ he
   | panicked c => cases hQ _ _ _ he
   | outgrown => exact he.elim fun a h => h.elim fun w h => (by cases hQ _ _ _ h)
  | _ => exact hc.elim
 | halt x w' =>
  cases x with
  | panic v => cases hQ _ _ _ h
  | _ => exact h.elim
section
variable {F : Fence} {P : Program} {n : Nat} {wr : World} {ops : Array Oper} {K : Fr -> List It -> Prop} {fr : Fr} {O : List It} {D : List Deferred}
theorem ZwI (hF : WF F) (hc : ∀ o ∈ ops.toList, ZkV o.op = true) {Q Q2 : Exit -> Act -> World -> Prop} (hQ : ∀ e a w, Q e a w -> e = .normal) (hK : ∀ a w, Q .normal a w -> Q2 .normal (actD D a) w) :
  ∀ (m : Nat) (listed : Array Bool) (a : Act) (w : World), wpAny P .any ops Q m listed a w -> wpAnyIn F 0 P .any ops Q2 m listed (actD D a) w := by
 intro m
 induction m with
 | zero => intro listed a w h; exact ⟨h.1, hK _ _ h.2⟩
 | succ m ih =>
  intro listed a w h
  refine ⟨fun hr => hK _ _ (h.1 hr), fun i hi => ?_⟩
  have h1 := h.2 i hi
  unfold wpOp at h1
  unfold wpOpIn
  cases ho : ops[i]? with
  | none => rw [ho] at h1; exact ih _ _ _ h1
  | some o =>
   rw [ho] at h1
   have hco : ZkV o.op = true := hc o (by
    rw [Array.mem_toList_iff]
    exact Array.mem_of_getElem? ho)
   dsimp only at h1 ⊢
   rw [show (actD D a).tmps = a.tmps from rfl]
   by_cases hw : Region.wanted o (yielded ops a.tmps) = true
   ·rw [if_pos hw] at h1 ⊢
    rcases h1 with h1 | ⟨_, h1⟩
    ·exact Zli (a := a) hF rfl (ZnM hco) (ZcM hco w) h1 hQ fun v w' hk => by
      rw [ZcA]
      exact ih _ _ _ hk
    ·obtain ⟨_, _, h2⟩ := h1
     cases hQ _ _ _ h2
   ·rw [if_neg hw] at h1 ⊢
    refine ⟨fun f _ => hF.fn f, ?_⟩
    rw [ZcA]
    exact ih _ _ _ h1
theorem ZnQ {l : List Oper} (hac : acyc l.toArray = true) (h : RD P n wr l.toArray (enum 0 l) [] [] K fr O) {a : Act} {w : World} (hs : St n wr fr O a w) :
  wpAny P .any l.toArray (Zf3 n wr [] K) l.toArray.size (Array.replicate l.toArray.size false) a { w with drawn := w.drawn + 1 } := by
 have h1 := h ⟨by simp [Zel, List.nodup_range'], by simp, trivial, trivial, fun p hp => by simpa using (ZgL l 0 p hp).2⟩ l.length [] [] [] [] a { w with drawn := w.drawn + 1 } (List.Sublist.refl _) (by simp)
  (by have h := hs.drawn (m := w.drawn + 1) (Nat.le_succ _); rw [show O ++ (ZcP [] ++ []) = O from by simp [ZcP]]; exact h) (by simp [ZlM]) (fun k o hk hn => absurd (by
   have hlt : k < l.length := by have := (Array.getElem?_eq_some_iff.1 hk).1; simpa using this
   have : k ∈ (enum 0 l).map (·.1) := by rw [Zel]; simp; exact hlt
   obtain ⟨p, hp, rfl⟩ := List.mem_map.1 this
   exact .inl ⟨p, hp, rfl⟩) hn)
 refine Zkh hac _ _ _ _ _ (by simp) ?_ (by simpa using h1)
 intro j
 unfold Tof
 constructor
 ·rintro (⟨p, hp, rfl⟩ | ⟨_, hh, _⟩ | ⟨_, hh, _⟩)
  ·have := (List.getElem?_eq_some_iff.1 (ZgL l 0 p hp).2).1
   have h2 : p.1 < l.length := by omega
   simp [Array.getD_eq_getD_getElem?, h2]
  ·cases hh
  ·cases hh
 ·intro hj
  have hlt : j < l.length := by
   rcases Nat.lt_or_ge j l.length with h0 | h0
   ·exact h0
   ·rw [Array.getD_eq_getD_getElem?, Array.getElem?_eq_none (by simpa using h0)] at hj
    simp at hj
  have : j ∈ (enum 0 l).map (·.1) := by rw [Zel]; simp; exact hlt
  obtain ⟨p, hp, rfl⟩ := List.mem_map.1 this
  exact .inl ⟨p, hp, rfl⟩
theorem ZuF {Q : Exit -> Fr -> List It -> Prop} {id : Nat} {l : List Oper} (hF : WF F) (hm : P.follows .mixedOrders = true) (hac : acyc l.toArray = true) (hc : l.all (fun o => ZkV o.op) = true) (h : RD P n wr l.toArray (enum 0 l) [] [] (Q .normal) fr O) : WI F D P n wr (.region id l.toArray true) Q fr O := by
 intro a w hs
 have h1 := ZnQ hac h hs
 refine wpIn_region_any hm (ZwI hF (fun o ho => List.all_eq_true.1 hc o (by simpa using ho)) (fun e a w he => he.1) ?_ _ _ _ _ h1)
 rintro a' w' ⟨_, fr', O', hs', hq⟩
 refine ⟨rfl, fr', O', ?_, hq⟩
 have hs2 : St n wr fr' O' a' w' := by simpa using hs'
 rw [Zes hs2]
 exact hs2
theorem Zlg {l p : Nat} {r : Loop} {v : Value} {a0 : Act} {R : Bool -> List It -> Prop} (hp : r.params = #[p]) (hr : r.state = .ready) (ht : r.tmps = a0.tmps) (hsim : Sim n fr a0) (hpn : Nat.ble (p + 1) n = true)
  (hmem : Za7 l r ∈ O) {id : Nat} {la : List Oper} (hass : r.assign = .region id la.toArray false)
  (hb : RLI (Fence.wide.inRound l) [] P n wr la.toArray la (fun fr' O' => ∃ O1, Upd O' (Za7 l r) (Za7 l { r with state := .busy }) O1 /\ WI (Fence.wide.inRound l) [] P n wr r.body (Zxb l r R) fr' O1) ((p, v) :: fr) O) : Zet P l v wr O R := by
 intro w hB hH
 have hl := Za7.at (hH.sat _ hmem)
 have hy := run_yield (P := P) (args := #[v]) hl (by rw [hp]; rfl)
 rw [hp, ht] at hy
 refine ⟨r.fn, _, r.assign, r.body, hy, roundIn_of_wpIn trivial ?_⟩
 have hst : St n wr ((p, v) :: fr) O { tmps := a0.tmps.setIfInBounds p v, defers := [] } w := by
  have := hsim.put hpn v
  refine ⟨?_, hB, hH⟩
  have e : ({ tmps := a0.tmps.setIfInBounds p v, defers := [] } : Act) = a0.put (some p) v := by
   have := hsim.defers
   simp [Act.put, this]
  rw [e]
  exact this
 rw [hass, show Array.foldl (fun tmps (x : Tmp × Value) => match x with | (t, a) => tmps.setIfInBounds t a) a0.tmps (#[p].zip #[v]) = a0.tmps.setIfInBounds p v by simp]
 refine wpIn_mono (wpIn_region_lit (hb _ w hst)) ?_
 rintro e a' w' ⟨rfl, hd, fr', O', hs', O1, hu, hW⟩
 have hl' := Za7.at (hs'.own.sat _ hu.mem)
 refine ⟨_, run_beginRound hl' hr, ?_⟩
 have hs2 := Zc4 hs' hu
 have h3 := hW _ _ hs2
 rw [Zd5 hd] at h3
 refine wpIn_mono h3 ?_
 rintro e2 a2 w2 ⟨hd2, fr2, O2, hs3, hq⟩
 cases e2 with
 | normal =>
  obtain ⟨O3, hu3, hR⟩ := hq
  have hl3 := Za7.at (hs3.own.sat _ hu3.mem)
  have hs4 := Zc4 hs3 hu3
  exact ⟨_, _, run_endRound none hl3, true, O3, rfl, hs4.old, hs4.own, hR⟩
 | ret =>
  obtain ⟨O3, hu3, hR⟩ := hq
  have hl3 := Za7.at (hs3.own.sat _ hu3.mem)
  have hs4 := Zc4 hs3 hu3
  exact ⟨_, _, run_endRound (some .ret) hl3, false, O3, rfl, hs4.old, hs4.own, hR⟩
 | exit id => exact hq.elim
 | goto t => exact hq.elim
 | panic ch => exact hq.elim
 | outgrown => exact hq.elim
theorem ZjO {Q : Exit -> Fr -> List It -> Prop} {id : Nat} (h : Q (.exit id) fr O) : WI F D P n wr (.exit id) Q fr O := fun a _ hs => wpIn_exit ⟨rfl, fr, O, by rw [Zes hs]; exact hs, h⟩
end
end Go.Wk
