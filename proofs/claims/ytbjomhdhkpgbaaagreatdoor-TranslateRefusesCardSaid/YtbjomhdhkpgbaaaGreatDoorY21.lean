/- Parts of the proof. -/
import Derived.Test.YtbjomhdhkpgbaaaGreatDoorY20
import Derived.Test.YtbjomhdhkpgbaaaGreatDoorY06
import Derived.Test.YtbjomhdhkpgbaaaGreatDoorY18
import Derived.Test.YtbjomhdhkpgbaaaGreatDoorY09
set_option maxHeartbeats 4000000
set_option linter.unusedVariables false
set_option linter.unusedSimpArgs false
namespace Go.Proofs.YtbjomhdhkpgbaaaGreatDoor
open Go Go.RowKit Go.Wk
attribute [local irreducible] W RL Does Zap Zak retQ Calls Pu Stp RD Qy Ay Zal RW
theorem Zl8 {s : Zab} {p : Zao} {e : Int} (h : ZcU s = some (p, e)) : e ≠ 0 := by
 unfold ZcU at h
 repeat' split at h
 all_goals first | (simp only [Option.some.injEq, Prod.mk.injEq] at h; omega) | cases h
theorem Zn3 {rs : List DRule} {x : ByteArray} {i : Nat} {e : Int} (h : ZbY rs x = some (i, e)) : e ≠ 0 := by
 unfold ZbY at h
 split at h
 ·simp only [Option.some.injEq, Prod.mk.injEq] at h; omega
 ·split at h
  ·rename_i h2
   simp only [Option.some.injEq] at h
   rw [h] at h2
   exact h2
  ·split at h
   ·simp only [Option.some.injEq, Prod.mk.injEq] at h; omega
   ·cases h
theorem Zid (rs : List DRule) : ∀ (l : List ByteArray) {p : Zao} {e : Int}, Zdv rs l = some (p, e) -> e ≠ 0
 | [], _, _, h => by cases h
 | x :: l, p, e, h => by
  rw [Zdv] at h
  split at h
  ·rename_i i e2 h2
   simp only [Option.some.injEq, Prod.mk.injEq] at h
   rw [<- h.2]
   exact Zn3 h2
  ·exact Zid rs l h
theorem ZfK (s : Zab) : ∀ (l seen : List ByteArray) (i : Nat) {p : Zao} {e : Int}, Zbb s l seen i = some (p, e) -> e ≠ 0
 | [], _, _, _, _, h => by cases h
 | x :: l, seen, i, p, e, h => by
  rw [Zbb] at h
  split at h
  ·simp only [Option.some.injEq, Prod.mk.injEq] at h; omega
  ·split at h
   ·simp only [Option.some.injEq, Prod.mk.injEq] at h; omega
   ·split at h
    ·simp only [Option.some.injEq, Prod.mk.injEq] at h; omega
    ·exact ZfK s l _ _ h
theorem Zhp (s : Zab) : ∀ (l : List DLink) (i : Nat) {p : Zao} {e : Int}, Zbr s l i = some (p, e) -> e ≠ 0
 | [], _, _, _, h => by cases h
 | x :: l, i, p, e, h => by
  rw [Zbr] at h
  repeat' split at h
  all_goals first | (simp only [Option.some.injEq, Prod.mk.injEq] at h; omega) | exact Zhp s l _ h
theorem Zhn (s : Zab) : ∀ (l : List DLink) (i : Nat) {p : Zao} {e : Int}, Zbq s l i = some (p, e) -> e ≠ 0
 | [], _, _, _, h => by cases h
 | x :: l, i, p, e, h => by
  rw [Zbq] at h
  split at h
  ·simp only [Option.some.injEq, Prod.mk.injEq] at h; omega
  ·exact Zhn s l _ h
theorem ZmE {s : Zab} {p : Zao} {e : Int} (h : ZcI s = some (p, e)) : e ≠ 0 := by
 unfold ZcI at h
 cases h1 : Za9 s s.zones 0 with
 | some x => rw [h1] at h; simp only [Option.some_or, Option.some.injEq] at h; subst h; exact Zey s _ _ _ _ h1
 | none =>
  rw [h1, Option.none_or] at h
  cases h2 : Zbr s s.links 0 with
  | some x => rw [h2] at h; simp only [Option.some_or, Option.some.injEq] at h; subst h; exact Zhp s _ _ h2
  | none =>
   rw [h2, Option.none_or] at h
   exact Zhn s _ _ h
theorem ZmY (rs : List DRule) (l : List DEra) (i : Nat) : ∀ (f k : Nat) {p : Zao} {e : Int}, Zca rs l i f k = some (p, e) -> e ≠ 0
 | 0, _, _, _, h => by cases h
 | f + 1, k, p, e, h => by
  rw [Zca] at h
  split at h
  ·rename_i h2; simp only [Option.some.injEq, Prod.mk.injEq] at h; rw [<- h.2]; exact h2
  ·split at h
   ·rename_i h2; simp only [Option.some.injEq, Prod.mk.injEq] at h; rw [<- h.2]; exact h2
   ·exact ZmY rs l i f _ h
theorem ZgF (rs : List DRule) : ∀ (l : List ZaX) (i : Nat) {p : Zao} {e : Int}, Zby rs l i = some (p, e) -> e ≠ 0
 | [], _, _, _, h => by cases h
 | z :: l, i, p, e, h => by
  rw [Zby] at h
  split at h
  ·simp only [Option.some.injEq, Prod.mk.injEq] at h; omega
  ·split at h
   ·rename_i x h2
    simp only [Option.some.injEq] at h
    subst h
    exact ZmY rs _ _ _ _ h2
   ·split at h
    ·simp only [Option.some.injEq, Prod.mk.injEq] at h; omega
    ·exact ZgF rs l _ h
instance : ZeroT Tryz.prog 118 [.nilFunc] := ⟨by kernel_rfl⟩
theorem Zjr {G : Prop} (h : G := by (first | (apply Zjk; rfl; (focus repeat' constructor); rfl) | (apply ZaG; rfl; rfl; exact hb))) : G := h
theorem Zjq {G : Prop} (h : G := by (apply Zjk; rfl; (focus repeat' constructor); rfl)) : G := h
set_option maxHeartbeats 2000000 in
theorem Zxr (Ar Az Al As : Option Addr) (cr cz cl cs : Nat) (a : Zab) (w : World) (hL : LibW w) (hG : Glob w) (hA : Zaj w Ar Az Al As cr cz cl cs a) (hS : Zg8 a) (hV : SavI a) (hZ : ∀ z ∈ a.zones, ∀ e ∈ z.eras, ZvZ e) :
  Does Tryz.prog 27 [srcV Ar Az Al As cr cz cl cs a] w (fun v O => v = ptV (accD a) /\ O = []) := by
 have h1 : ∀ w', Bel w.heap.size w w' -> Does Tryz.prog 50 ([srcV Ar Az Al As cr cz cl cs a] ++ [] ++ []) w' (fun v O => v = ptV (ZcU a) /\ O = []) := fun w' hw => Zrk Ar Az Al As cr cz cl cs a w' (hA.up hw) hS.nz
 have h2 : ∀ w', Bel w.heap.size w w' -> Does Tryz.prog 51 ([srcV Ar Az Al As cr cz cl cs a] ++ [] ++ []) w' (fun v O => v = ptV (ZfL a) /\ O = []) := fun w' hw => ZrE Ar Az Al As cr cz cl cs a w' (hG.up hw) (hA.up hw) hS hV
 have h3 : ∀ w', Bel w.heap.size w w' -> Does Tryz.prog 52 ([srcV Ar Az Al As cr cz cl cs a] ++ [] ++ []) w' (fun v O => v = ptV (Zbb a a.shifts [] 0) /\ O = []) := fun w' hw => ZmC Ar Az Al As cr cz cl cs a w' (hA.up hw) hS
 have h4 : ∀ w', Bel w.heap.size w w' -> Does Tryz.prog 53 ([srcV Ar Az Al As cr cz cl cs a] ++ [] ++ []) w' (fun v O => v = ptV (ZcI a) /\ O = []) := fun w' hw => Zop Ar Az Al As cr cz cl cs a w' (hA.up hw) hS
 have h5 : ZfL a = none -> ∀ w', Bel w.heap.size w w' -> Does Tryz.prog 54 ([srcV Ar Az Al As cr cz cl cs a] ++ [] ++ []) w' (fun v O => v = ptV (Zby a.rules a.zones 0) /\ O = []) := fun hs w' hw => ZoW Ar Az Al As cr cz cl cs a w' (hL.up hw) (hG.up hw) (hA.up hw) hS (Zs5 hs) hZ
 have n1 := fun {p e} => @Zl8 a p e
 have n2 : ∀ {p e}, ZfL a = some (p, e) -> e ≠ 0 := fun h => Zid a.rules _ h
 have n3 : ∀ {p e}, Zbb a a.shifts [] 0 = some (p, e) -> e ≠ 0 := fun h => ZfK a _ _ _ h
 have n4 := fun {p e} => @ZmE a p e
 have n5 : ∀ {p e}, Zby a.rules a.zones 0 = some (p, e) -> e ≠ 0 := fun h => ZgF a.rules _ _ h
 unfold accD
 generalize ZcU a = o1 at *
 generalize ZfL a = o2 at *
 generalize Zbb a a.shifts [] 0 = o3 at *
 generalize ZcI a = o4 at *
 generalize Zby a.rules a.zones 0 = o5 at *
 refine Zaa Tryz.func27 rfl rfl rfl rfl ?_
 repeat (first | (refine js ?_; (refine bx ?_; intro bk)) | refine ZlS ?_)
 refine W_block (ZhQ 6 (ZbN ?_))
 cases o1 with
 | some x =>
  obtain ⟨⟨p1, p2, p3⟩, e⟩ := x
  have hb : (!decide (e = 0)) = true := by rw [decide_eq_false (n1 rfl)]; rfl
  simp only [Option.some_or, ptV, plV, Zao.enc] at h1 ⊢
  repeat (first | (apply RL_pu; rfl; exact Zjr) | (refine js ?_; (first | (refine ZdT (fun w' hw _ => h1 w' hw) ?_) | (refine bx ?_; intro bk))) | refine walk1 ?_)
  exact rtC
 | none =>
 simp only [ptV, plV, Zao.enc] at h1
 rw [Option.none_or]
 repeat (first | (apply RL_pu; rfl; exact Zjq) | (refine js ?_; (first | (refine ZdT (fun w' hw _ => h1 w' hw) ?_) | (refine bx ?_; intro bk))) | refine walk1 ?_)
 refine ZbN ?_
 cases o2 with
 | some x =>
  obtain ⟨⟨p1, p2, p3⟩, e⟩ := x
  have hb : (!decide (e = 0)) = true := by rw [decide_eq_false (n2 rfl)]; rfl
  simp only [Option.some_or, ptV, plV, Zao.enc] at h2 ⊢
  repeat (first | (apply RL_pu; rfl; exact Zjr) | (refine js ?_; (first | (refine ZdT (fun w' hw _ => h2 w' hw) ?_) | (refine bx ?_; intro bk))) | refine walk1 ?_)
  exact rtC
 | none =>
 replace h5 := h5 rfl
 simp only [ptV, plV, Zao.enc] at h2
 rw [Option.none_or]
 repeat (first | (apply RL_pu; rfl; exact Zjq) | (refine js ?_; (first | (refine ZdT (fun w' hw _ => h2 w' hw) ?_) | (refine bx ?_; intro bk))) | refine walk1 ?_)
 refine ZbN ?_
 cases o3 with
 | some x =>
  obtain ⟨⟨p1, p2, p3⟩, e⟩ := x
  have hb : (!decide (e = 0)) = true := by rw [decide_eq_false (n3 rfl)]; rfl
  simp only [Option.some_or, ptV, plV, Zao.enc] at h3 ⊢
  repeat (first | (apply RL_pu; rfl; exact Zjr) | (refine js ?_; (first | (refine ZdT (fun w' hw _ => h3 w' hw) ?_) | (refine bx ?_; intro bk))) | refine walk1 ?_)
  exact rtC
 | none =>
 simp only [ptV, plV, Zao.enc] at h3
 rw [Option.none_or]
 repeat (first | (apply RL_pu; rfl; exact Zjq) | (refine js ?_; (first | (refine ZdT (fun w' hw _ => h3 w' hw) ?_) | (refine bx ?_; intro bk))) | refine walk1 ?_)
 refine ZbN ?_
 cases o4 with
 | some x =>
  obtain ⟨⟨p1, p2, p3⟩, e⟩ := x
  have hb : (!decide (e = 0)) = true := by rw [decide_eq_false (n4 rfl)]; rfl
  simp only [Option.some_or, ptV, plV, Zao.enc] at h4 ⊢
  repeat (first | (apply RL_pu; rfl; exact Zjr) | (refine js ?_; (first | (refine ZdT (fun w' hw _ => h4 w' hw) ?_) | (refine bx ?_; intro bk))) | refine walk1 ?_)
  exact rtC
 | none =>
 simp only [ptV, plV, Zao.enc] at h4
 rw [Option.none_or]
 repeat (first | (apply RL_pu; rfl; exact Zjq) | (refine js ?_; (first | (refine ZdT (fun w' hw _ => h4 w' hw) ?_) | (refine bx ?_; intro bk))) | refine walk1 ?_)
 refine ZbN ?_
 cases o5 with
 | some x =>
  obtain ⟨⟨p1, p2, p3⟩, e⟩ := x
  have hb : (!decide (e = 0)) = true := by rw [decide_eq_false (n5 rfl)]; rfl
  simp only [ptV, plV, Zao.enc] at h5 ⊢
  repeat (first | (apply RL_pu; rfl; exact Zjr) | (refine js ?_; (first | (refine ZdT (fun w' hw _ => h5 w' hw) ?_) | (refine bx ?_; intro bk))) | refine walk1 ?_)
  exact rtC
 | none =>
 simp only [ptV, plV, Zao.enc] at h5 ⊢
 repeat (first | (apply RL_pu; rfl; exact Zjq) | (refine js ?_; (first | (refine ZdT (fun w' hw _ => h5 w' hw) ?_) | (refine bx ?_; intro bk))) | refine walk1 ?_)
 refine ZbN ?_
 repeat (first | (refine js ?_; (refine bx ?_; intro bk)) | refine walk ?_)
 exact rtC
end Go.Proofs.YtbjomhdhkpgbaaaGreatDoor
namespace Go.Proofs.YtbjomhdhkpgbaaaGreatDoor
open Go Go.RowKit Go.Wk
attribute [local irreducible] W RL Does Zap Zak retQ Calls Pu Stp RD Qy Ay Zal
theorem ZmN (A : Option Addr) (c : Nat) (l : List DEra) (f : FuncId) [Body Tryz.prog f] (us cs : List Value) (p : DEra -> Bool) (w : World) (hA : RdSl w A c DEra.enc 13 l)
  (hf : ∀ r ∈ l, ∀ w', Bel w.heap.size w w' -> Does Tryz.prog f (us ++ [.agg (DEra.enc r).toArray] ++ cs) w' (fun v O => v = .bool (p r) /\ O = [])) :
  Does Tryz.prog 60 [.slice A l.length c, .func (.func f) us.toArray cs.toArray] w (fun v O => v = .int .i64 (ZbG p l 0) /\ O = []) := by
 have hs1 := hA.le
 have hs2 := hA.cap
 unfold maxLen at hs2
 generalize hres : ZbG p l 0 = res
 refine Zaa Tryz.func60 rfl rfl rfl rfl ?_
 repeat (first | refine walk ?_)
 refine Zaq [(0, _), (1, _), (4, _), (7, _)] _ (fun k : Nat => [(8, .int .i64 k)]) (fun _ => []) (fun k => k <= l.length /\ ZbG p (l.drop k) k = res) (fun k => l.length - k) 0 ⟨rfl, rfl, rfl, rfl, rfl, trivial⟩ (.refl _) ⟨by omega, by simpa using hres⟩ ?_
 rintro k ⟨hk, hi⟩
 repeat (first | refine walk ?_)
 refine Zah rfl (fun hc => ?_) (fun hc => ?_)
 ·simp only [decide_eq_true_eq, Int.ofNat_lt] at hc
  obtain ⟨hna, hca⟩ := hA.rd k _ (List.getElem?_eq_getElem hc)
  have hnb := hna
  have hcb := hca
  rw [Zan hc, ZbG] at hi
  have hrm := List.getElem_mem hc
  generalize l[k] = r at *
  repeat (first | (apply RL_pu; rfl; exact PuI) | (refine js ?_; (refine ZdT (fun w' hw _ => hf r hrm w' hw) ?_)) | refine walk1 ?_)
  refine Zah rfl (fun h3 => ?_) (fun h3 => ?_)
  ·repeat (first | refine walk ?_)
   rw [if_pos h3] at hi
   exact ret_1 _ [] (.tmp rfl) .nil ⟨by rw [<- hi], rfl⟩
  repeat (first | refine walk ?_)
  rw [h3] at hi
  exact ⟨k + 1, by omega, ⟨by omega, hi⟩, SFA, SOA⟩
 simp only [decide_eq_false_iff_not, Int.ofNat_lt] at hc
 repeat (first | refine walk ?_)
 exact ret_1 _ [] (.tmp rfl) .nil ⟨by rw [<- hi, List.drop_eq_nil_of_le (by omega)]; rfl, rfl⟩
theorem ZsE (r : DRule) (ad : Addr) (a1 : Bool) (w : World) (h : w.cell? (ad.add 1) = some (.bool a1)) : Does Tryz.prog 57 [.agg (DRule.enc r).toArray, .pointer (some ad)] w (fun v O => v = .bool (decide (r.save < 0) && !a1) /\ O = []) := by
 obtain ⟨nm, fr, to, mo, ⟨dk, dw, dd⟩, ⟨us, ub⟩, sv, le⟩ := r
 show Does _ _ [.agg #[.string nm, .int .i64 fr, .int .i64 to, .int .i64 mo, .int .i64 dk, .int .i64 dw, .int .i64 dd, .int .i64 us, .int .i64 ub, .int .i64 sv, .string le], .pointer (some ad)] w _
 refine Zaa Tryz.func57 rfl rfl rfl rfl ?_
 repeat' (first | (apply RL_pu; rfl; (apply Pu_loadO1; rfl; exact h)) | (refine js ?_; (refine bx ?_; intro bk)) | refine walk1 ?_ | refine und ?_ | (refine Zay rfl rfl rfl (fun hc => ?_) (fun hc => ?_)) | (refine Zaw rfl rfl rfl (fun hc => ?_) (fun hc => ?_)) | (refine Zah rfl (fun hc => ?_) (fun hc => ?_)))
 all_goals exact clo1
theorem ZsD (e : DEra) (ad : Addr) (a2 a3 : Bool) (w : World) (hL : LibW w) (hf : e.format.size <= 1000000000) (h2 : w.cell? (ad.add 2) = some (.bool a2)) (h3 : w.cell? (ad.add 3) = some (.bool a3)) :
  Does Tryz.prog 58 [.agg (DEra.enc e).toArray, .pointer (some ad)] w (fun v O => v = .bool ((decide (ZaK e.format.data.toList = 4) && !a2) || (decide (ZaK e.format.data.toList = 5) && !a3)) /\ O = []) := by
 have hk := fun w' (hw : Bel w.heap.size w w') => ZeS e.format w' (hL.up hw) hf
 obtain ⟨off, kind, save, set, format, til⟩ := e
 dsimp only at hk hf ⊢
 generalize ZaK format.data.toList = K at *
 obtain ⟨k4, e4⟩ : ∃ b, decide (K = 4) = b := ⟨_, rfl⟩
 obtain ⟨k5, e5⟩ : ∃ b, decide (K = 5) = b := ⟨_, rfl⟩
 rw [e4, e5]
 simp only [DEra.enc]
 refine Zaa Tryz.func58 rfl rfl rfl rfl ?_
 repeat' (first | (apply RL_pu; rfl; (first | (apply Pu_loadO1; rfl; exact h2) | (apply Pu_loadO1; rfl; exact h3) | (apply ZaH; rfl; rfl; exact e4) | (apply ZaH; rfl; rfl; exact e5))) | (refine js ?_; (first | (refine Zad hk ?_) | (refine bx ?_; intro bk))) | refine walk1 ?_ | refine und ?_ | (refine Zay rfl rfl rfl (fun hc => ?_) (fun hc => ?_)) | (refine Zaw rfl rfl rfl (fun hc => ?_) (fun hc => ?_)) | (refine Zah rfl (fun hc => ?_) (fun hc => ?_)))
 all_goals exact clo1
def vRow (f : Nat) : List Value := (ZhE.drop (f * 5)).take 5
theorem Zsz {w : World} (hG : Glob w) (f : Nat) : Zam w ((⟨1, 0, none⟩ : Addr).add (f * 5)) (vRow f) := fun j v hj => by
 rw [Za7]
 refine hG.var (f * 5 + j) v ?_
 unfold vRow at hj
 rw [List.getElem?_take] at hj
 split at hj
 ·rwa [List.getElem?_drop] at hj
 ·cases hj
theorem Zpn {G : Prop} (h : G := by (first | (apply ZbC; rfl; rfl; omega; omega) | (apply Pu_loadON; rfl; exact hcv; rfl))) : G := h
theorem of_1 (w : World) (hG : Glob w) : Does Tryz.prog 55 [.int .i64 1] w (fun v O => v = .tuple #[.agg (vRow 1).toArray, .bool true] /\ O = []) := by
 have hcv := Zsz hG 1
 rw [show vRow 1 = [.string ⟨#[118, 97, 110, 103, 117, 97, 114, 100]⟩, .bool true, .bool true, .bool false, .bool false] from rfl] at hcv ⊢
 refine Zaa Tryz.func55 rfl rfl rfl rfl ?_
 repeat (first | (apply RL_pu; rfl; exact Zpn) | (refine js ?_; (refine bx ?_; intro bk)) | refine walk1 ?_)
 exact rtC
theorem of_2 (w : World) (hG : Glob w) : Does Tryz.prog 55 [.int .i64 2] w (fun v O => v = .tuple #[.agg (vRow 2).toArray, .bool true] /\ O = []) := by
 have hcv := Zsz hG 2
 rw [show vRow 2 = [.string ⟨#[109, 97, 105, 110]⟩, .bool true, .bool false, .bool true, .bool false] from rfl] at hcv ⊢
 refine Zaa Tryz.func55 rfl rfl rfl rfl ?_
 repeat (first | (apply RL_pu; rfl; exact Zpn) | (refine js ?_; (refine bx ?_; intro bk)) | refine walk1 ?_)
 exact rtC
theorem of_3 (w : World) (hG : Glob w) : Does Tryz.prog 55 [.int .i64 3] w (fun v O => v = .tuple #[.agg (vRow 3).toArray, .bool true] /\ O = []) := by
 have hcv := Zsz hG 3
 rw [show vRow 3 = [.string ⟨#[114, 101, 97, 114, 103, 117, 97, 114, 100]⟩, .bool false, .bool false, .bool true, .bool true] from rfl] at hcv ⊢
 refine Zaa Tryz.func55 rfl rfl rfl rfl ?_
 repeat (first | (apply RL_pu; rfl; exact Zpn) | (refine js ?_; (refine bx ?_; intro bk)) | refine walk1 ?_)
 exact rtC
theorem Zvi {G : Prop} (h : G := by (apply Zbt; rfl; rfl; exact b1)) : G := h
theorem ZAl (f : Int) (hf : f < 1 \/ 3 < f) (w : World) : Does Tryz.prog 55 [.int .i64 f] w (fun v O => v = .tuple #[.agg #[.string ByteArray.empty, .bool false, .bool false, .bool false, .bool false], .bool false] /\ O = []) := by
 refine Zaa Tryz.func55 rfl rfl rfl rfl ?_
 by_cases h1 : f < 1
 ·have b1 : decide (f < 1) = true := decide_eq_true h1
  repeat (first | refine und ?_ | (apply RL_pu; rfl; exact Zvi) | (refine js ?_; (refine bx ?_; intro bk)) | refine walk1 ?_)
  exact rtC
 ·have b1 : decide (f < 1) = false := decide_eq_false h1
  have b2 : decide (4 <= f) = true := decide_eq_true (by omega)
  repeat (first | refine und ?_ | (apply RL_pu; rfl; (first | exact Zvi | (apply Ze3; rfl; rfl; exact b2))) | (refine js ?_; (refine bx ?_; intro bk)) | refine walk1 ?_)
  exact rtC
def ZeB (a2 a3 : Bool) (e : DEra) : Bool := (decide (ZaK e.format.data.toList = 4) && !a2) || (decide (ZaK e.format.data.toList = 5) && !a3)
def negB (a1 : Bool) (r : DRule) : Bool := decide (r.save < 0) && !a1
def zGo (a2 a3 : Bool) : List ZaX -> Nat -> Option (Zao × Int)
 | [], _ => none
 | z :: l, i => match z.eras.findIdx? (ZeB a2 a3) with | some j => some (⟨2, i, j⟩, 17) | none => zGo a2 a3 l (i + 1)
def vfG (a1 a2 a3 a4 : Bool) (s : Zab) : Option (Zao × Int) :=
 match s.rules.findIdx? (negB a1) with
 | some i => some (⟨1, i, 0⟩, 17)
 | none => match zGo a2 a3 s.zones 0 with
  | some x => some x
  | none => if 0 < s.shifts.length /\ a4 = false then some (⟨4, 0, 0⟩, 17) else none
theorem ZxJ (p : DEra -> Bool) (a2 a3 : Bool) (hp : ZeB a2 a3 = p) : ∀ (l : List ZaX) (k : Nat), zGo a2 a3 l k = match l.findIdx? (fun z => z.eras.any p) with
  | some i => some (⟨2, (k + i : Nat), (((l[i]?).map fun z => ((z.eras.findIdx? p).getD 0)).getD 0)⟩, 17)
  | none => none
 | [], _ => rfl
 | z :: l, k => by
  rw [zGo, hp, List.findIdx?_cons]
  by_cases h : z.eras.any p = true
  ·rw [if_pos h]
   obtain ⟨j, hj⟩ : ∃ j, z.eras.findIdx? p = some j := by
    cases hq : z.eras.findIdx? p with
    | some j => exact ⟨j, rfl⟩
    | none =>
     rw [List.findIdx?_eq_none_iff] at hq
     rw [List.any_eq_true] at h
     obtain ⟨x, hx, hx2⟩ := h
     rw [hq x hx] at hx2
     cases hx2
   rw [hj]
   simp [hj]
  ·rw [if_neg h]
   have hq : z.eras.findIdx? p = none := by
    rw [List.findIdx?_eq_none_iff]
    intro x hx
    cases hpx : p x with
    | false => rfl
    | true => exact absurd (List.any_eq_true.2 ⟨x, hx, hpx⟩) h
   rw [hq]
   dsimp only
   rw [ZxJ p a2 a3 hp l (k + 1)]
   cases l.findIdx? (fun z => z.eras.any p) with
   | none => rfl
   | some i => simp [Nat.add_comm, Nat.add_left_comm]
theorem Zsx (f : Int) (a1 a2 a3 a4 : Bool) (s : Zab) (h1 : ¬ (f < 1 \/ 3 < f)) (hn : (fun r : DRule => decide (r.save < 0) && decide (f = 3)) = negB a1)
  (hw : (fun e : DEra => (decide (ZaK e.format.data.toList = 4) && !decide (f = 1)) || (decide (ZaK e.format.data.toList = 5) && decide (f = 1))) = ZeB a2 a3) (h4 : f ≠ 3 ↔ a4 = false) : ZaL f s = vfG a1 a2 a3 a4 s := by
 unfold ZaL vfG
 rw [if_neg h1, hn]
 dsimp only
 rw [hw, ZxJ (ZeB a2 a3) a2 a3 rfl]
 cases s.rules.findIdx? (negB a1) with
 | some i => rfl
 | none =>
  dsimp only
  cases s.zones.findIdx? (fun z => z.eras.any (ZeB a2 a3)) with
  | some i => simp
  | none =>
   dsimp only
   by_cases h5 : 0 < s.shifts.length /\ f ≠ 3
   ·rw [if_pos h5, if_pos ⟨h5.1, h4.1 h5.2⟩]
   ·rw [if_neg h5, if_neg (fun h => h5 ⟨h.1, h4.2 h.2⟩)]
theorem vf_1 (s : Zab) : ZaL 1 s = vfG true true false false s := Zsx 1 _ _ _ _ s (by omega) (by funext r; simp [negB]) (by funext e; simp [ZeB]) (by simp)
theorem vf_2 (s : Zab) : ZaL 2 s = vfG true false true false s := Zsx 2 _ _ _ _ s (by omega) (by funext r; simp [negB]) (by funext e; simp [ZeB]) (by simp)
theorem vf_3 (s : Zab) : ZaL 3 s = vfG false false true true s := Zsx 3 _ _ _ _ s (by omega) (by funext r; simp [negB]) (by funext e; simp [ZeB]) (by simp)
theorem Zus {w w' : World} {b j : Nat} {cs : List Value} {v : Value} (h : Zam w ⟨b, 0, none⟩ cs) (hw : Bel w.heap.size w w') (hv : cs[j]? = some v) : w'.cell? ((⟨b, 0, none⟩ : Addr).add j) = some v :=
 (hw.cell (World.block_lt_of_cell? w _ (h j v hv))).trans (h j v hv)
theorem Zpm {G : Prop} (h : G := by (apply Za0; rfl; rfl; exact bs)) : G := h
set_option maxHeartbeats 2000000 in
theorem ZkF (Ar Az Al As : Option Addr) (cr cz cl cs : Nat) (a : Zab) (f : Int) (nm : ByteArray) (a1 a2 a3 a4 : Bool) (w : World) (hL : LibW w) (hA : Zaj w Ar Az Al As cr cz cl cs a) (hS : Zg8 a) (hZ : ∀ z ∈ a.zones, ∀ e ∈ z.eras, e.format.size <= 1000000000)
  (hof : ∀ w', Bel w.heap.size w w' -> Does Tryz.prog 55 [.int .i64 f] w' (fun v O => v = .tuple #[.agg #[.string nm, .bool a1, .bool a2, .bool a3, .bool a4], .bool true] /\ O = [])) :
  Does Tryz.prog 28 [srcV Ar Az Al As cr cz cl cs a, .int .i64 f] w (fun v O => v = ptV (vfG a1 a2 a3 a4 a) /\ O = []) := by
 have hnz := hS.nz
 have hns := hS.ns
 have hru : ∀ b6 w', Bel w.heap.size w w' -> Zam w' ⟨b6, 0, none⟩ [.string nm, .bool a1, .bool a2, .bool a3, .bool a4] -> Does Tryz.prog 56 [.slice Ar a.rules.length cr, .func (.func 57) #[] #[.pointer (some ⟨b6, 0, none⟩)]] w' (fun v O => v = .int .i64 (ZbG (negB a1) a.rules 0) /\ O = []) :=
  fun b6 w' hw h6 => ZdF Ar cr a.rules 57 [] [.pointer (some ⟨b6, 0, none⟩)] (negB a1) w' (hA.up hw).r fun r w2 hw2 => ZsE r ⟨b6, 0, none⟩ a1 w2 (Zus h6 hw2 rfl)
 rw [Zgm] at hru
 unfold vfG
 generalize a.rules.findIdx? (negB a1) = ri at *
 refine Zaa Tryz.func28 rfl rfl rfl rfl ?_
 cases ri with
 | some i =>
  dsimp only at hru ⊢
  rw [Nat.zero_add] at hru
  have b0 : decide ((0 : Int) <= (i : Int)) = true := decide_eq_true (by omega)
  simp only [ptV, plV, Zao.enc]
  repeat (first | (apply RL_pu; rfl; (apply Ze3; rfl; rfl; exact b0)) | (refine js ?_; (first | (refine Zad hof ?_) | (refine ZaW (fun w' hw hO => hru _ w' hw (hO.cells (by repeat' constructor))) ?_) | (refine bx ?_; intro bk))) | refine walk1 ?_)
  exact rtC
 | none =>
  dsimp only at hru ⊢
  obtain ⟨zr, hzr⟩ : ∃ zr, zGo a2 a3 a.zones 0 = zr := ⟨_, rfl⟩
  rw [hzr]
  repeat (first | (refine js ?_; (first | (refine Zad hof ?_) | (refine ZaW (fun w' hw hO => hru _ w' hw (hO.cells (by repeat' constructor))) ?_) | (refine bx ?_; intro bk))) | refine walk ?_)
  obtain ⟨b6, hb6⟩ : ∃ b6, bk = b6 := ⟨_, rfl⟩
  rw [hb6]
  clear hb6 bk
  obtain ⟨b4, hb4⟩ : ∃ b4, bk = b4 := ⟨_, rfl⟩
  rw [hb4]
  clear hb4 bk
  obtain ⟨b2, hb2⟩ : ∃ b2, bk = b2 := ⟨_, rfl⟩
  rw [hb2]
  clear hb2 bk
  refine Zaq [(2, .pointer (some ⟨b2, 0, none⟩)), (4, .pointer (some ⟨b4, 0, none⟩)), (6, .pointer (some ⟨b6, 0, none⟩)), (9, .func (.func 58) #[] #[.pointer (some ⟨b6, 0, none⟩)]), (31, .slice Az a.zones.length cz), (32, .int .i64 a.zones.length)] [.blk b6 [.string nm, .bool a1, .bool a2, .bool a3, .bool a4] 121, .blk b4 [.int .i64 0, .int .i64 0, .int .i64 0] 36, .blk b2 [.slice Ar a.rules.length cr, .slice Az a.zones.length cz, .slice Al a.links.length cl, .slice As a.shifts.length cs] 32]
   (fun k : Nat => [(33, .int .i64 k)]) (fun _ => []) (fun k => k <= a.zones.length /\ zGo a2 a3 (a.zones.drop k) k = zr) (fun k => a.zones.length - k) 0 SFA SOA ⟨Nat.zero_le _, hzr⟩ ?_
  clear hzr
  rintro i ⟨hil, hi⟩
  repeat (first | (refine js ?_; (refine bx ?_; intro bk)) | refine walk ?_)
  refine Zah rfl (fun hc => ?_) (fun hc => ?_)
  ·simp only [decide_eq_true_eq, Int.ofNat_lt] at hc
   obtain ⟨hna, cs1, ⟨Ae, ce, hEz, rfl⟩, hca⟩ := hA.z i _ (List.getElem?_eq_getElem hc)
   have hmem := List.getElem_mem hc
   rw [Zan hc, zGo] at hi
   generalize a.zones[i] = z at *
   have her : ∀ b6 w', Bel w.heap.size w w' -> Zam w' ⟨b6, 0, none⟩ [.string nm, .bool a1, .bool a2, .bool a3, .bool a4] -> Does Tryz.prog 60 [.slice Ae z.eras.length ce, .func (.func 58) #[] #[.pointer (some ⟨b6, 0, none⟩)]] w' (fun v O => v = .int .i64 (ZbG (ZeB a2 a3) z.eras 0) /\ O = []) :=
    fun b6 w' hw h6 => ZmN Ae ce z.eras 58 [] [.pointer (some ⟨b6, 0, none⟩)] (ZeB a2 a3) w' (hEz.up hw) fun r hr w2 hw2 => ZsD r ⟨b6, 0, none⟩ a2 a3 w2 ((hL.up hw).up hw2) (hZ z hmem r hr) (Zus h6 hw2 rfl) (Zus h6 hw2 rfl)
   rw [Zgm] at her
   generalize z.eras.findIdx? (ZeB a2 a3) = ei at *
   cases ei with
   | some j =>
    dsimp only at her hi
    rw [Nat.zero_add] at her
    have b0 : decide ((0 : Int) <= (j : Int)) = true := decide_eq_true (by omega)
    subst hi
    simp only [ptV, plV, Zao.enc]
    repeat (first | (apply RL_pu; rfl; (first | exact PuI | (apply Ze3; rfl; rfl; exact b0))) | (refine js ?_; (first | (refine ZaW (fun w' hw hO => her _ w' hw (hO.cells (by repeat' constructor))) ?_) | (refine bx ?_; intro bk))) | refine walk1 ?_)
    exact rtC
   | none =>
    dsimp only at her hi
    repeat (first | (apply RL_pu; rfl; exact PuI) | (refine js ?_; (first | (refine ZaW (fun w' hw hO => her _ w' hw (hO.cells (by repeat' constructor))) ?_) | (refine bx ?_; intro bk))) | refine walk1 ?_)
    exact ⟨i + 1, OA, ⟨OA, hi⟩, SFA, SOA⟩
  ·simp only [decide_eq_false_iff_not, Int.ofNat_lt] at hc
   rw [List.drop_eq_nil_of_le (by omega), zGo] at hi
   subst hi
   dsimp only
   by_cases hsn : 0 < a.shifts.length
   ·have bs : decide ((0 : Int) < a.shifts.length) = true := decide_eq_true (by omega)
    cases a4 with
    | false =>
     rw [if_pos ⟨hsn, rfl⟩]
     simp only [ptV, plV, Zao.enc]
     repeat (first | (apply RL_pu; rfl; exact Zpm) | (refine js ?_; (refine bx ?_; intro bk)) | refine walk1 ?_)
     exact rtC
    | true =>
     rw [if_neg (by rintro ⟨_, h⟩; cases h)]
     repeat (first | (apply RL_pu; rfl; exact Zpm) | (refine js ?_; (refine bx ?_; intro bk)) | refine walk1 ?_)
     exact rtC
   ·have bs : decide ((0 : Int) < a.shifts.length) = false := decide_eq_false (by omega)
    rw [if_neg (fun h => hsn h.1)]
    repeat (first | (apply RL_pu; rfl; exact Zpm) | (refine js ?_; (refine bx ?_; intro bk)) | refine walk1 ?_)
    exact rtC
theorem ZsC (Ar Az Al As : Option Addr) (cr cz cl cs : Nat) (a : Zab) (f : Int) (w : World) (hL : LibW w) (hG : Glob w) (hA : Zaj w Ar Az Al As cr cz cl cs a) (hS : Zg8 a) (hZ : ∀ z ∈ a.zones, ∀ e ∈ z.eras, e.format.size <= 1000000000) :
  Does Tryz.prog 28 [srcV Ar Az Al As cr cz cl cs a, .int .i64 f] w (fun v O => v = ptV (ZaL f a) /\ O = []) := by
 by_cases hb : f < 1 \/ 3 < f
 ·have hof := fun w' => ZAl f hb w'
  unfold ZaL
  rw [if_pos hb]
  simp only [ptV, plV, Zao.enc]
  refine Zaa Tryz.func28 rfl rfl rfl rfl ?_
  repeat (first | (refine js ?_; (first | (refine Zad (fun w' hw => hof w') ?_) | (refine bx ?_; intro bk))) | refine walk ?_)
  exact rtC
 ·obtain rfl | rfl | rfl : f = 1 \/ f = 2 \/ f = 3 := by omega
  ·rw [vf_1]
   exact ZkF Ar Az Al As cr cz cl cs a 1 _ _ _ _ _ w hL hA hS hZ fun w' hw => of_1 w' (hG.up hw)
  ·rw [vf_2]
   exact ZkF Ar Az Al As cr cz cl cs a 2 _ _ _ _ _ w hL hA hS hZ fun w' hw => of_2 w' (hG.up hw)
  ·rw [vf_3]
   exact ZkF Ar Az Al As cr cz cl cs a 3 _ _ _ _ _ w hL hA hS hZ fun w' hw => of_3 w' (hG.up hw)
theorem Zo7 {s : Zab} {p : Zao} {e : Int} (h : accD s = some (p, e)) : e ≠ 0 := by
 unfold accD at h
 cases h1 : ZcU s with
 | some x => rw [h1] at h; simp only [Option.some_or, Option.some.injEq] at h; subst h; exact Zl8 h1
 | none =>
  rw [h1, Option.none_or] at h
  cases h2 : ZfL s with
  | some x => rw [h2] at h; simp only [Option.some_or, Option.some.injEq] at h; subst h; exact Zid _ _ h2
  | none =>
   rw [h2, Option.none_or] at h
   cases h3 : Zbb s s.shifts [] 0 with
   | some x => rw [h3] at h; simp only [Option.some_or, Option.some.injEq] at h; subst h; exact ZfK _ _ _ _ h3
   | none =>
    rw [h3, Option.none_or] at h
    cases h4 : ZcI s with
    | some x => rw [h4] at h; simp only [Option.some_or, Option.some.injEq] at h; subst h; exact ZmE h4
    | none =>
     rw [h4, Option.none_or] at h
     exact ZgF _ _ _ h
structure Zjv (w : World) (Ar Az Al As : Option Addr) (cr cz cl cs : Nat) (a : Zab) : Prop where
 L : LibW w
 G : Glob w
 A : Zaj w Ar Az Al As cr cz cl cs a
 S : Zg8 a
 V : SavI a
 Z : ∀ z ∈ a.zones, ∀ e ∈ z.eras, ZvZ e
theorem Zjv.up {w w' : World} {Ar Az Al As : Option Addr} {cr cz cl cs : Nat} {a : Zab} (h : Zjv w Ar Az Al As cr cz cl cs a) (hb : Bel w.heap.size w w') : Zjv w' Ar Az Al As cr cz cl cs a :=
 ⟨h.L.up hb, h.G.up hb, h.A.up hb, h.S, h.V, h.Z⟩
theorem accS {w : World} {Ar Az Al As : Option Addr} {cr cz cl cs : Nat} {a : Zab} (h : Zjv w Ar Az Al As cr cz cl cs a) : Does Tryz.prog 27 [srcV Ar Az Al As cr cz cl cs a] w (fun v O => v = ptV (accD a) /\ O = []) :=
 Zxr Ar Az Al As cr cz cl cs a w h.L h.G h.A h.S h.V h.Z
theorem ZnN {f : Int} {s : Zab} {p : Zao} {e : Int} (h : ZaL f s = some (p, e)) : e ≠ 0 := by
 unfold ZaL at h
 dsimp only at h
 repeat' split at h
 all_goals first | (simp only [Option.some.injEq, Prod.mk.injEq] at h; omega) | cases h
theorem varS {w : World} {Ar Az Al As : Option Addr} {cr cz cl cs : Nat} {a : Zab} (h : Zjv w Ar Az Al As cr cz cl cs a) (f : Int) : Does Tryz.prog 28 [srcV Ar Az Al As cr cz cl cs a, .int .i64 f] w (fun v O => v = ptV (ZaL f a) /\ O = []) :=
 ZsC Ar Az Al As cr cz cl cs a f w h.L h.G h.A h.S fun z hz e he => (h.Z z hz e he).fmt
theorem Zyu {G : Prop} (h : G := by (apply ZaG; rfl; rfl; exact hb)) : G := h
theorem Zyt {G : Prop} (h : G := by (apply Zbt; rfl; rfl; exact b1)) : G := h
theorem ZvA {G : Prop} (h : G := by (first | exact Zyt | (apply Za0; rfl; rfl; exact b2))) : G := h
theorem ZwZ (Ar Az Al As : Option Addr) (cr cz cl cs : Nat) (a : Zab) (f : Int) (w : World) (h : Zjv w Ar Az Al As cr cz cl cs a) :
  Does Tryz.prog 16 [srcV Ar Az Al As cr cz cl cs a, .int .i64 f] w (fun v O => v = ptV (inD a f) /\ O = []) := by
 have hac := fun w' (hw : Bel w.heap.size w w') => accS (h.up hw)
 have hva := fun w' (hw : Bel w.heap.size w w') => varS (h.up hw) f
 have hne := fun {p e} => @Zo7 a p e
 have hvb : (f < 1 \/ 3 < f) -> ZaL f a = some (⟨0, 0, 0⟩, 2) := fun hb => by unfold ZaL; rw [if_pos hb]
 unfold inD
 generalize accD a = o1 at *
 generalize ZaL f a = o2 at *
 refine Zaa Tryz.func16 rfl rfl rfl rfl ?_
 cases o1 with
 | some x =>
  obtain ⟨⟨p1, p2, p3⟩, e⟩ := x
  have hb : (!decide (e = 0)) = true := by rw [decide_eq_false (hne rfl)]; rfl
  simp only [Option.some_or, ptV, plV, Zao.enc] at hac ⊢
  repeat (first | (apply RL_pu; rfl; exact Zyu) | (refine js ?_; (first | (refine Zad hac ?_) | (refine bx ?_; intro bk))) | refine walk1 ?_)
  exact rtC
 | none =>
  rw [Option.none_or]
  by_cases h1 : f < 1
  ·have b1 : decide (f < 1) = true := decide_eq_true h1
   rw [hvb (.inl h1)]
   simp only [ptV, plV, Zao.enc] at hac ⊢
   repeat (first | refine und ?_ | (apply RL_pu; rfl; exact Zyt) | (refine js ?_; (first | (refine Zad hac ?_) | (refine bx ?_; intro bk))) | refine walk1 ?_)
   exact rtC
  have b1 : decide (f < 1) = false := decide_eq_false h1
  by_cases h2 : 3 < f
  ·have b2 : decide (3 < f) = true := decide_eq_true h2
   rw [hvb (.inr h2)]
   simp only [ptV, plV, Zao.enc] at hac ⊢
   repeat (first | refine und ?_ | (apply RL_pu; rfl; exact ZvA) | (refine js ?_; (first | (refine Zad hac ?_) | (refine bx ?_; intro bk))) | refine walk1 ?_)
   exact rtC
  have b2 : decide (3 < f) = false := decide_eq_false h2
  cases o2 with
  | none =>
   simp only [ptV, plV, Zao.enc] at hac hva ⊢
   repeat (first | refine und ?_ | (apply RL_pu; rfl; exact ZvA) | (refine js ?_; (first | (refine Zad hac ?_) | (refine Zad hva ?_) | (refine bx ?_; intro bk))) | refine walk1 ?_)
   exact rtC
  | some x =>
   obtain ⟨⟨p1, p2, p3⟩, e⟩ := x
   simp only [ptV, plV, Zao.enc] at hac hva ⊢
   repeat (first | refine und ?_ | (apply RL_pu; rfl; exact ZvA) | (refine js ?_; (first | (refine Zad hac ?_) | (refine Zad hva ?_) | (refine bx ?_; intro bk))) | refine walk1 ?_)
   exact rtC
structure FoG where
 k : Nat
 A : Option Addr
 c : Nat
 m : Nat
 ys : List Value
 acc : List Int
def okF (a : Zab) (f : Int) : Bool := (ZaL f a).isNone
theorem f123 {k : Nat} (h : k < 3) : ([1, 2, 3] : List Int)[k]? = some ((k : Int) + 1) := by
 match k, h with
 | 0, _ => rfl
 | 1, _ => rfl
 | 2, _ => rfl
theorem Zvz {G : Prop} (h : G := by (apply ZlA; rfl; rfl; exact b3)) : G := h
theorem ZiE (Ar Az Al As : Option Addr) (cr cz cl cs : Nat) (a : Zab) (w : World) (h : Zjv w Ar Az Al As cr cz cl cs a) :
  Does Tryz.prog 14 [srcV Ar Az Al As cr cz cl cs a] w (ZhD 3 1 iEnc (Zb4 a)) := by
 have hac := fun w' (hw : Bel w.heap.size w w') => accS (h.up hw)
 have hvf := fun f w' (hw : Bel w.heap.size w w') => varS (h.up hw) f
 have hne := fun {p e} => @Zo7 a p e
 unfold Zb4
 generalize accD a = o1 at *
 refine Zaa Tryz.func14 rfl rfl rfl rfl ?_
 cases o1 with
 | some x =>
  obtain ⟨⟨p1, p2, p3⟩, e⟩ := x
  have hb : (!decide (e = 0)) = true := by rw [decide_eq_false (hne rfl)]; rfl
  rw [show (some ((⟨p1, p2, p3⟩ : Zao), e)).isSome = true from rfl]
  simp only [if_true]
  simp only [ptV, plV, Zao.enc] at hac
  refine Zdu 3 1 ?_
  repeat (first | (apply RL_pu; rfl; exact Zyu) | (refine js ?_; (first | (refine Zad hac ?_) | (refine bx ?_; intro bk))) | refine walk1 ?_)
  exact ret_1 _ [.row (.slice none 0 0) 3 1 0 []] (.tmp rfl) SOA ⟨none, 0, rfl, rfl⟩
 | none =>
  simp only [Option.isSome_none, Bool.false_eq_true, if_false]
  simp only [ptV, plV, Zao.enc] at hac
  repeat (first | (refine js ?_; (first | (refine Zad hac ?_) | (refine bx ?_; intro bk))) | refine walk ?_)
  obtain ⟨b3, hb3⟩ : ∃ b3, bk = b3 := ⟨_, rfl⟩
  rw [hb3]
  clear hb3 bk
  obtain ⟨b1, hb1⟩ : ∃ b1, bk = b1 := ⟨_, rfl⟩
  rw [hb1]
  clear hb1 bk
  refine Zdu 3 1 ?_
  refine Zaq [(1, .pointer (some ⟨b1, 0, none⟩))] [.blk b1 [.slice Ar a.rules.length cr, .slice Az a.zones.length cz, .slice Al a.links.length cl, .slice As a.shifts.length cs] 32] (fun g : FoG => [(5, .slice g.A g.m g.c), (6, .int .i64 ((g.k : Int) + 1))]) (fun g => [.row (.slice g.A g.m g.c) 3 1 g.m g.ys])
   (fun g => g.k <= 3 /\ g.m <= g.k /\ g.m = g.acc.length /\ g.ys = g.acc.flatMap iEnc /\ g.acc = (([1, 2, 3] : List Int).take g.k).filter (okF a)) (fun g => 3 - g.k) ⟨0, none, 0, 0, [], []⟩ SFA SOA ⟨Nat.zero_le _, Nat.le_refl _, rfl, rfl, rfl⟩ ?_
  rintro ⟨k, A1, c1, m, ys, acc⟩ ⟨hk, hmk, hm, hy, hi⟩
  dsimp only at hk hmk hm hy hi ⊢
  by_cases hk3 : k < 3
  ·have b3 : decide ((k : Int) + 1 <= 3) = true := decide_eq_true (by omega)
   have hg := f123 hk3
   have hva := hvf ((k : Int) + 1)
   have htk : (([1, 2, 3] : List Int).take (k + 1)).filter (okF a) = acc ++ (if okF a ((k : Int) + 1) then [(k : Int) + 1] else []) := by
    rw [List.take_add_one, hg, List.filter_append, <- hi]
    congr 1
    simp only [Option.toList, List.filter_cons, List.filter_nil]
   rw [show okF a ((k : Int) + 1) = (ZaL ((k : Int) + 1) a).isNone from rfl] at htk
   cases hv : ZaL ((k : Int) + 1) a with
   | none =>
    rw [hv] at hva htk
    simp only [ptV, plV, Zao.enc] at hva
    repeat (first | (apply RL_pu; rfl; exact Zvz) | (refine js ?_; (first | (refine Zad hva ?_) | (apply ZaC; rfl; rfl; (intro A' c'; (focus repeat' constructor)); (intro w' _ hO; exact ZbD (hO.of (by repeat' constructor))); rfl; rfl; (simp only [maxLen]; omega); omega; intro A' c' hc1 hc2 hc3) | (refine bx ?_; intro bk))) | refine walk1 ?_)
    refine ⟨⟨k + 1, A', c', m + 1, ys ++ [.int .i64 ((k : Int) + 1)], acc ++ [(k : Int) + 1]⟩, OA, ⟨OA, OA, by simp [hm], by rw [hy]; simp [iEnc], by dsimp only; rw [htk]; simp⟩, ?_, SOA⟩
    exact SFA
   | some x =>
    obtain ⟨⟨p1, p2, p3⟩, e⟩ := x
    have be : decide (e = 0) = false := decide_eq_false (ZnN hv)
    rw [hv] at hva htk
    simp only [ptV, plV, Zao.enc] at hva
    repeat (first | (apply RL_pu; rfl; (first | exact Zvz | (apply ZaH; rfl; rfl; exact be))) | (refine js ?_; (first | (refine Zad hva ?_) | (refine bx ?_; intro bk))) | refine walk1 ?_)
    refine ⟨⟨k + 1, A1, c1, m, ys, acc⟩, OA, ⟨OA, OA, hm, hy, by dsimp only; rw [htk]; simp⟩, ?_, SOA⟩
    exact SFA
  ·obtain rfl : k = 3 := by omega
   have b3 : decide (((3 : Nat) : Int) + 1 <= 3) = false := by decide
   subst hm hy
   repeat (first | (apply RL_pu; rfl; exact Zvz) | (refine js ?_; (refine bx ?_; intro bk)) | refine walk1 ?_)
   exact ret_1 _ [.row (.slice A1 acc.length c1) 3 1 acc.length (acc.flatMap iEnc)] (.tmp rfl) SOA (by rw [show ([1, 2, 3].filter fun f => (ZaL f a).isNone) = acc from hi.symm]; exact ⟨A1, c1, rfl, rfl⟩)
end Go.Proofs.YtbjomhdhkpgbaaaGreatDoor
namespace Go.Proofs.YtbjomhdhkpgbaaaGreatDoor
open Go Go.RowKit Go.Wk
def toE (form : Int) (a : Zab) : Option (Zao × Int) := match accD a with
 | some x => some x
 | none => if Zb4 a = [] then ZaL 1 a else if form < 1 \/ 3 < form then some (⟨0, 0, 0⟩, 2) else none
end Go.Proofs.YtbjomhdhkpgbaaaGreatDoor
set_option maxHeartbeats 8000000
namespace Go.Proofs.YtbjomhdhkpgbaaaGreatDoor
open Go Go.RowKit Go.Wk
attribute [local irreducible] W RL Does Zap Zak retQ Calls Pu Stp RD Qy Ay Zal
def srcE : Value := .agg #[.slice none 0 0, .slice none 0 0, .slice none 0 0, .slice none 0 0]
def ToF (x : Zao × Int) (v : Value) (O : List It) : Prop := v = .tuple #[srcE, plV x.1, .int .i64 x.2] /\ O = []
def ToS (s : Zab) (v : Value) (O : List It) : Prop := ∃ u, v = .tuple #[u, plV ⟨0, 0, 0⟩, .int .i64 0] /\ ZgD s u O
theorem Ze5 {G : Prop} (h : G := by (first | (apply ZaG; rfl; rfl; first | exact e1 | exact e0) | (apply ZaH; rfl; rfl; exact e2) | (apply Zbt; rfl; rfl; exact e3) | (apply Za0; rfl; rfl; exact e4))) : G := h
theorem Zkr {G : Prop} (h : G := by first | (apply Qy_y; rfl; exact Ze5) | exact QyA) : G := h
theorem Zgx {G : Prop} (h : G := by repeat (first | exact QF.nil | (apply QF.mk; rfl; rfl; decide +kernel; exact Zkr))) : G := h
theorem ZdJ (Ar Az Al As : Option Addr) (cr cz cl cs : Nat) (a : Zab) (form : Int) (x : Zao × Int) (w : World) (h : Zjv w Ar Az Al As cr cz cl cs a) (hx : toE form a = some x) :
  Does Tryz.prog 9 [srcV Ar Az Al As cr cz cl cs a, .int .i64 form] w (ToF x) := by
 have hac := fun w' (hw : Bel w.heap.size w w') => accS (h.up hw)
 have hva := fun w' (hw : Bel w.heap.size w w') => varS (h.up hw) 1
 have hfo := fun w' (hw : Bel w.heap.size w w') => ZiE Ar Az Al As cr cz cl cs a w' (h.up hw)
 have e0 : (!decide ((0 : Int) = 0)) = false := rfl
 unfold toE at hx
 unfold ToF srcE
 cases hd : accD a with
 | some y =>
  rw [hd] at hx hac
  obtain rfl : y = x := by injection hx
  have hne := Zo7 (s := a) (p := y.1) (e := y.2) hd
  obtain ⟨⟨p1, p2, p3⟩, e⟩ := y
  dsimp only at hne
  have e1 : (!decide (e = 0)) = true := by rw [decide_eq_false hne]; rfl
  simp only [ptV, plV, Zao.enc] at hac ⊢
  unfold srcV at hac ⊢
  refine Zaa Tryz.func9 rfl rfl rfl rfl ?_
  repeat (first | (apply RL_pu; rfl; exact Ze5) | (apply RD_Q; rfl; rfl; decide +kernel; rfl; rfl; exact Zkr) | refine walk1 ?_ | (refine jg ?_; (try intro F); (first | (refine Zad hac ?_) | (refine bx ?_; intro bk) | (refine stA ?_)); first | refine ⟨_, EndsA, Zgx, ?_⟩ | refine fin ?_) | (refine jn ?_; (try intro F); (first | (refine bx ?_; intro bk) | (refine stA ?_) | (apply Zag; first | exact Ze5 | exact PuA)); first | refine ⟨_, EndsA, Zgx, ?_⟩ | refine fin ?_) | (apply RD_W; rfl; intro bk))
  exact Zf6 _ _ _ [] (.cellB rfl (by repeat' constructor) rfl rfl) (.cellB rfl (by repeat' constructor) rfl rfl) (.tmp rfl) .nil ⟨rfl, rfl⟩
 | none =>
  rw [hd] at hx hac
  dsimp only at hx
  by_cases hff : Zb4 a = []
  ·rw [if_pos hff] at hx
   rw [hff] at hfo
   rw [hx] at hva
   obtain ⟨⟨p1, p2, p3⟩, e⟩ := x
   have e2 : decide ((0 : Int) = 0) = true := rfl
   simp only [ptV, plV, Zao.enc] at hac hva ⊢
   unfold srcV at hac hva hfo ⊢
   refine Zaa Tryz.func9 rfl rfl rfl rfl ?_
   repeat (first | (apply RL_pu; rfl; exact Ze5) | (apply RD_Q; rfl; rfl; decide +kernel; rfl; rfl; exact Zkr) | refine walk1 ?_ | (refine jg ?_; (try intro F); (first | (refine Zad hac ?_) | (apply Zac (h := fun w' hw _ => hfo w' hw); rfl; rintro v O' ⟨Af, cf, rfl, rfl⟩) | (refine Zad hva ?_) | (refine bx ?_; intro bk) | (refine stA ?_)); first | refine ⟨_, EndsA, Zgx, ?_⟩ | refine fin ?_) | (refine jn ?_; (try intro F); (first | (refine bx ?_; intro bk) | (refine stA ?_) | (apply Zag; first | exact Ze5 | exact PuA)); first | refine ⟨_, EndsA, Zgx, ?_⟩ | refine fin ?_) | (apply RD_W; rfl; intro bk))
   exact Zf6 _ _ _ [] (.cellB rfl (by repeat' constructor) rfl rfl) (.cellB rfl (by repeat' constructor) rfl rfl) (.tmp rfl) .nil ⟨rfl, rfl⟩
  ·rw [if_neg hff] at hx
   have hlen : (Zb4 a).length ≠ 0 := fun h0 => hff (List.length_eq_zero_iff.1 h0)
   have e2 : decide (((Zb4 a).length : Int) = 0) = false := decide_eq_false (by omega)
   by_cases hfm : form < 1 \/ 3 < form
   ·rw [if_pos hfm] at hx
    obtain rfl : (⟨0, 0, 0⟩, 2) = x := by injection hx
    simp only [ptV, plV, Zao.enc] at hac ⊢
    unfold srcV at hac hfo ⊢
    by_cases h1 : form < 1
    ·have e3 : decide (form < 1) = true := decide_eq_true h1
     refine Zaa Tryz.func9 rfl rfl rfl rfl ?_
     repeat (first | refine und ?_ | (apply RL_pu; rfl; exact Ze5) | (apply RD_Q; rfl; rfl; decide +kernel; rfl; rfl; exact Zkr) | refine walk1 ?_ | (refine jg ?_; (try intro F); (first | (refine Zad hac ?_) | (apply Zac (h := fun w' hw _ => hfo w' hw); rfl; rintro v O' ⟨Af, cf, rfl, rfl⟩) | (refine bx ?_; intro bk) | (refine stA ?_)); first | refine ⟨_, EndsA, Zgx, ?_⟩ | refine fin ?_) | (refine jn ?_; (try intro F); (first | (refine bx ?_; intro bk) | (refine stA ?_) | (apply Zag; first | exact Ze5 | exact PuA)); first | refine ⟨_, EndsA, Zgx, ?_⟩ | refine fin ?_) | (apply RD_W; rfl; intro bk))
     exact Zf6 _ _ _ [] (.cellB rfl (by repeat' constructor) rfl rfl) (.cellB rfl (by repeat' constructor) rfl rfl) (.tmp rfl) .nil ⟨rfl, rfl⟩
    ·have e3 : decide (form < 1) = false := decide_eq_false h1
     have e4 : decide (3 < form) = true := decide_eq_true (by omega)
     refine Zaa Tryz.func9 rfl rfl rfl rfl ?_
     repeat (first | refine und ?_ | (apply RL_pu; rfl; exact Ze5) | (apply RD_Q; rfl; rfl; decide +kernel; rfl; rfl; exact Zkr) | refine walk1 ?_ | (refine jg ?_; (try intro F); (first | (refine Zad hac ?_) | (apply Zac (h := fun w' hw _ => hfo w' hw); rfl; rintro v O' ⟨Af, cf, rfl, rfl⟩) | (refine bx ?_; intro bk) | (refine stA ?_)); first | refine ⟨_, EndsA, Zgx, ?_⟩ | refine fin ?_) | (refine jn ?_; (try intro F); (first | (refine bx ?_; intro bk) | (refine stA ?_) | (apply Zag; first | exact Ze5 | exact PuA)); first | refine ⟨_, EndsA, Zgx, ?_⟩ | refine fin ?_) | (apply RD_W; rfl; intro bk))
     exact Zf6 _ _ _ [] (.cellB rfl (by repeat' constructor) rfl rfl) (.cellB rfl (by repeat' constructor) rfl rfl) (.tmp rfl) .nil ⟨rfl, rfl⟩
   ·rw [if_neg hfm] at hx
    cases hx
theorem ZfM : ∀ (l : List ByteArray) {s : Zab}, Fits s -> s.shifts.length + l.length <= 1000000 -> Fits (Zes l s)
 | [], _, h, _ => h
 | x :: l, s, h, hl => by
  rw [List.length_cons] at hl
  rw [Zes]
  split
  ·refine ZfM l ?_ ?_
   ·obtain ⟨h1, h2, h3, h4, h5⟩ := h.byS x (-Zai (ofB s.rules x))
    exact ⟨h1, h2, h3, by dsimp only; rw [List.length_append]; simp only [List.length_cons, List.length_nil]; omega, h5⟩
   ·dsimp only
    rw [List.length_append]
    simp only [List.length_cons, List.length_nil]
    omega
  ·exact ZfM l h (by omega)
theorem ZpP {s : Zab} (h : Fits s) : ∀ k, Fits (stD s k)
 | 0 => h
 | 1 => Zbu h
 | 2 => (Zbu h).erasS _
 | 3 => ((Zbu h).erasS _).erasS _
 | _ + 4 => ZfM _ (((Zbu h).erasS _).erasS _) (ZxM h)
theorem Zz3 {form : Int} (hform : form = 1 \/ form = 2 \/ form = 3) (s : Zab) : toD form s = stD s (form + 1).toNat := by
 rcases hform with rfl | rfl | rfl <;> rfl
theorem ZlZ (Ar Az Al As : Option Addr) (cr cz cl cs : Nat) (a : Zab) (form : Int) (w : World) (h : Zjv w Ar Az Al As cr cz cl cs a) (hn : Fits a) (hform : form = 1 \/ form = 2 \/ form = 3) (hacc : accD a = none) (hff : Zb4 a ≠ []) (ht : toB form a = true) :
  Does Tryz.prog 9 [srcV Ar Az Al As cr cz cl cs a, .int .i64 form] w (ToS (toD form a)) := by
 have hok := ZyL hform hn ht
 have hac := fun w' (hw : Bel w.heap.size w w') => accS (h.up hw)
 have hfo := fun w' (hw : Bel w.heap.size w w') => ZiE Ar Az Al As cr cz cl cs a w' (h.up hw)
 have e0 : (!decide ((0 : Int) = 0)) = false := rfl
 have hlen : (Zb4 a).length ≠ 0 := fun h0 => hff (List.length_eq_zero_iff.1 h0)
 have e2 : decide (((Zb4 a).length : Int) = 0) = false := decide_eq_false (by omega)
 have e3 : decide (form < 1) = false := decide_eq_false (by omega)
 have e4 : decide (3 < form) = false := decide_eq_false (by omega)
 rw [hacc] at hac
 rw [Zz3 hform]
 simp only [ptV, plV, Zao.enc] at hac ⊢
 unfold srcV at hac hfo ⊢
 refine Zaa Tryz.func9 rfl rfl rfl rfl ?_
 refine Zei [] _ (drF w Ar Az Al As cr cz cl cs a) (.refl _) (fun w' _ hB => h.A.up hB) ?_
 generalize foot [] = S
 repeat (first | refine und ?_ | (apply RL_pu; rfl; exact Ze5) | (apply RD_Q; rfl; rfl; decide +kernel; rfl; rfl; exact Zkr) | refine walk1 ?_ | (refine ZdC ?_; intro F; (first | (refine Zad hac ?_) | (apply Zac (h := fun w' hw _ => hfo w' hw); rfl; rintro v O' ⟨Af, cf, rfl, rfl⟩) | (apply ZbE (h := ZhW _ form Ar Az Al As cr cz cl cs S a _ w h.L hform hok); rfl; exact .cons (by repeat' constructor) (.cons (by repeat' constructor) (.refl _)); rintro v O' ⟨rfl, B1, B2, B3, B4, d1, d2, d3, d4, S2, rfl⟩) | (apply Zac (h := fun w' hw hO => (Zi4 B1 B2 B3 B4 d1 d2 d3 d4 (stD a (form + 1).toNat) w' ((Za1 (hO.of (A := .fact S2 (drF w B1 B2 B3 B4 d1 d2 d3 d4 (stD a (form + 1).toNat))) (by repeat' constructor)) : drF w B1 B2 B3 B4 d1 d2 d3 d4 (stD a (form + 1).toNat) w') hw) (ZpP hn _)).monoO fun _ _ h => ZcG h); rfl; rintro v O' ⟨A6, c6, A7, c7, A8, c8, A9, c9, Z6, S6, rfl, hZ6, rfl⟩)); refine ⟨_, EndsA, SubO.right _ _, ?_⟩) | (refine jn ?_; (try intro F); (first | (refine Zad hac ?_) | (apply Zac (h := fun w' hw _ => hfo w' hw); rfl; rintro v O' ⟨Af, cf, rfl, rfl⟩) | (apply ZbE (h := ZhW _ form Ar Az Al As cr cz cl cs S a _ w h.L hform hok); rfl; exact .cons (by repeat' constructor) (.cons (by repeat' constructor) (.refl _)); rintro v O' ⟨rfl, B1, B2, B3, B4, d1, d2, d3, d4, S2, rfl⟩) | (apply Zac (h := fun w' hw hO => (Zi4 B1 B2 B3 B4 d1 d2 d3 d4 (stD a (form + 1).toNat) w' ((Za1 (hO.of (A := .fact S2 (drF w B1 B2 B3 B4 d1 d2 d3 d4 (stD a (form + 1).toNat))) (by repeat' constructor)) : drF w B1 B2 B3 B4 d1 d2 d3 d4 (stD a (form + 1).toNat) w') hw) (ZpP hn _)).monoO fun _ _ h => ZcG h); rfl; rintro v O' ⟨A6, c6, A7, c7, A8, c8, A9, c9, Z6, S6, rfl, hZ6, rfl⟩) | (refine bx ?_; intro bk) | (refine stA ?_) | (apply Zag; first | exact Ze5 | exact PuA)); first | refine ⟨_, EndsA, Zgx, ?_⟩ | refine fin ?_) | (apply RD_W; rfl; intro bk))
 exact Zf6 _ _ _ [rowR A6 c6 (stD a (form + 1).toNat).rules, rowZ A7 c7 Z6, rowL A8 c8 (stD a (form + 1).toNat).links, rowS A9 c9 (stD a (form + 1).toNat).shifts, .fact S6 (Zax Z6)] (.cellB rfl (by repeat' constructor) rfl rfl) (.cellB rfl (by repeat' constructor) rfl rfl) (.tmp rfl) SOA ⟨_, rfl, A6, c6, A7, c7, A8, c8, A9, c9, Z6, S6, rfl, hZ6, rfl⟩
end Go.Proofs.YtbjomhdhkpgbaaaGreatDoor
namespace Go.Proofs.YtbjomhdhkpgbaaaGreatDoor
open Go Go.RowKit Go.Wk
attribute [local irreducible] W RL Does Zap Zak retQ Calls Pu Stp RD Qy Ay
theorem ZkO (A B : Option Addr) (ca cb : Nat) (p q : ZaX) (w : World) (hA : RdSl w A ca DEra.enc 13 p.eras) (hB : RdSl w B cb DEra.enc 13 q.eras) :
  Does Tryz.prog 69 [.agg #[.string p.name, .slice A p.eras.length ca], .agg #[.string q.name, .slice B q.eras.length cb]] w (fun v O => v = .bool (decide (p = q)) /\ O = []) := by
 rw [Zqz]
 refine Zaa Tryz.func69 rfl rfl rfl rfl ?_
 repeat (first | (refine js ?_; (refine bx ?_; intro bk)) | refine walk ?_)
 refine Zcf 10 rfl (fun g1 => ?_) (fun g1 => ?_)
 ·repeat (first | (refine js ?_; (first | (refine Zad (fun w' hw => ZiX A B ca cb p.eras q.eras w' (hA.up hw) (hB.up hw)) ?_) | (refine bx ?_; intro bk))) | refine walk ?_)
  exact ret_1 _ [] (.tmp rfl) .nil ⟨by rw [g1]; rfl, rfl⟩
 repeat (first | (refine js ?_; (refine bx ?_; intro bk)) | refine walk ?_)
 exact ret_1 _ [] (.tmp rfl) .nil ⟨by rw [g1]; rfl, rfl⟩
theorem ZjB (A B : Option Addr) (ca cb : Nat) (x y : List ZaX) (w : World) (hA : RdZ w A x) (hB : RdZ w B y) (hxc : x.length <= ca) (hc : ca <= maxLen) :
  Does Tryz.prog 68 [.slice A x.length ca, .slice B y.length cb, .func (.func 69) #[] #[]] w (fun v O => v = .bool (decide (x = y)) /\ O = []) := by
 unfold maxLen at hc
 generalize hres : decide (x = y) = res
 refine Zaa Tryz.func68 rfl rfl rfl rfl ?_
 repeat (first | (refine js ?_; (refine bx ?_; intro bk)) | refine walk ?_)
 refine Zah rfl (fun h1 => ?_) (fun h1 => ?_)
 ·repeat (first | (refine js ?_; (refine bx ?_; intro bk)) | refine walk ?_)
  exact ret_1 _ [] (.tmp rfl) .nil ⟨by rw [<- hres, Zg2]; simp at h1; omega, rfl⟩
 have hlen : x.length = y.length := by simp at h1; omega
 clear h1
 repeat (first | (refine js ?_; (refine bx ?_; intro bk)) | refine walk ?_)
 refine Zaq [(0, _), (1, _), (2, _), (6, _), (15, _), (16, _)] [] (fun k : Nat => [(17, .int .i64 k)]) (fun _ => []) (fun k => k <= x.length /\ decide (x.drop k = y.drop k) = res) (fun k => x.length - k) 0 SFA .nil ⟨by omega, hres⟩ ?_
 rintro k ⟨hk, hi⟩
 repeat (first | (refine js ?_; (refine bx ?_; intro bk)) | refine walk ?_)
 refine Zah rfl (fun hc => ?_) (fun hc => ?_)
 ·simp only [decide_eq_true_eq, Int.ofNat_lt] at hc
  have hcy : k < y.length := by omega
  obtain ⟨hna, cs1, ⟨Ae, ce, hE, rfl⟩, hca⟩ := hA k _ (List.getElem?_eq_getElem hc)
  obtain ⟨hnb, cs2, ⟨Be, de, hF, rfl⟩, hcb⟩ := hB k _ (List.getElem?_eq_getElem hcy)
  rw [Zan hc, Zan hcy, Zfi] at hi
  generalize x[k] = p at *
  generalize y[k] = q at *
  repeat (first | (apply RL_pu; rfl; exact PuI) | (refine js ?_; (first | (apply Zar (f := 69) (us := []) (cs := []) (vs := [.agg #[.string p.name, .slice Ae p.eras.length ce], .agg #[.string q.name, .slice Be q.eras.length de]]) (h := fun w' hw _ => ZkO Ae Be ce de p q w' (hE.up hw) (hF.up hw)); rfl; rfl; rintro v O' ⟨rfl, rfl⟩) | (refine bx ?_; intro bk))) | refine walk1 ?_)
  refine Zah rfl (fun h3 => ?_) (fun h3 => ?_)
  ·repeat (first | (refine js ?_; (refine bx ?_; intro bk)) | refine walk ?_)
   exact ret_1 _ [] (.tmp rfl) .nil ⟨by simp at h3; simp [<- hi, h3], rfl⟩
  repeat (first | (refine js ?_; (refine bx ?_; intro bk)) | refine walk ?_)
  simp at h3
  exact ⟨k + 1, by omega, ⟨by omega, by rw [<- hi]; simp [h3]⟩, SFA, .nil⟩
 simp only [decide_eq_false_iff_not, Int.ofNat_lt] at hc
 repeat (first | (refine js ?_; (refine bx ?_; intro bk)) | refine walk ?_)
 exact ret_1 _ [] (.tmp rfl) .nil ⟨by rw [<- hi, Zg1 (by omega) (by omega)], rfl⟩
theorem ZiZ (a b : Zab) : decide (a = b) = (decide (a.rules = b.rules) && (decide (a.zones = b.zones) && (decide (a.links = b.links) && decide (a.shifts = b.shifts)))) := by
 rcases a with ⟨_, _, _, _⟩
 rcases b with ⟨_, _, _, _⟩
 rw [Bool.eq_iff_iff]
 simp
theorem Zig (Ar Az Al As : Option Addr) (cr cz cl cs : Nat) (a : Zab) (Br Bz Bl Bs : Option Addr) (dr dz dl ds : Nat) (b : Zab) (w : World) (hA : Zaj w Ar Az Al As cr cz cl cs a) (hB : Zaj w Br Bz Bl Bs dr dz dl ds b) :
  Does Tryz.prog 31 [srcV Ar Az Al As cr cz cl cs a, srcV Br Bz Bl Bs dr dz dl ds b] w (fun v O => v = .bool (decide (a = b)) /\ O = []) := by
 rw [ZiZ]
 refine Zaa Tryz.func31 rfl rfl rfl rfl ?_
 repeat (first | (refine js ?_; (first | (refine Zad (fun w' hw => ZiW Ar Br cr dr a.rules b.rules w' (hA.r.up hw) (hB.r.up hw)) ?_) | (refine bx ?_; intro bk))) | refine walk ?_)
 refine Zcf 10 rfl (fun g1 => ?_) (fun g1 => ?_)
 ·repeat (first | (refine js ?_; (first | (refine Zad (fun w' hw => ZjB Az Bz cz dz a.zones b.zones w' (hA.z.up hw) (hB.z.up hw) hA.zle hA.zcap) ?_) | (refine bx ?_; intro bk))) | refine walk ?_)
  refine Zcf 17 rfl (fun g2 => ?_) (fun g2 => ?_)
  ·repeat (first | (refine js ?_; (first | (refine Zad (fun w' hw => ZfS Al Bl cl dl a.links b.links w' (hA.l.up hw) (hB.l.up hw)) ?_) | (refine bx ?_; intro bk))) | refine walk ?_)
   refine Zcf 24 rfl (fun g3 => ?_) (fun g3 => ?_)
   ·repeat (first | (refine js ?_; (first | (refine Zad (fun w' hw => ZiV As Bs cs ds a.shifts b.shifts w' (hA.s.up hw) (hB.s.up hw)) ?_) | (refine bx ?_; intro bk))) | refine walk ?_)
    exact ret_1 _ [] (.tmp rfl) .nil ⟨by rw [g1, g2, g3]; rfl, rfl⟩
   repeat (first | (refine js ?_; (refine bx ?_; intro bk)) | refine walk ?_)
   exact ret_1 _ [] (.tmp rfl) .nil ⟨by rw [g1, g2, g3]; rfl, rfl⟩
  repeat (first | (refine js ?_; (refine bx ?_; intro bk)) | refine walk ?_)
  exact ret_1 _ [] (.tmp rfl) .nil ⟨by rw [g1, g2]; rfl, rfl⟩
 repeat (first | (refine js ?_; (refine bx ?_; intro bk)) | refine walk ?_)
 exact ret_1 _ [] (.tmp rfl) .nil ⟨by rw [g1]; rfl, rfl⟩
end Go.Proofs.YtbjomhdhkpgbaaaGreatDoor
