/- Parts of the proof. -/
import Derived.Test.YtdlmhmmhdbbliaaGreatDoorW07
import Derived.Test.YtdlmhmmhdbbliaaGreatDoorW16
import Derived.Test.YtdlmhmmhdbbliaaGreatDoorW14
import Derived.Test.YtdlmhmmhdbbliaaGreatDoorW12
import Derived.Test.YtdlmhmmhdbbliaaGreatDoorW09
import Derived.Test.YtdlmhmmhdbbliaaGreatDoorW05
set_option maxHeartbeats 4000000
set_option linter.unusedVariables false
set_option linter.unusedSimpArgs false
namespace Go.Proofs.YtdlmhmmhdbbliaaGreatDoor
open Go Go.RowKit Go.Wk
attribute [local irreducible] W RL Does Zau Zaj retQ Calls Pu Stp RD Qy Ay Zak
structure IG where
 k : Nat
 A : Option Addr
 c : Nat
 m : Nat
 xs : List Value
 acc : List Zad
def Zzj (l : List Zad) (v : Value) (O : List It) : Prop := ∃ A c, v = .tuple #[.slice A l.length c, .int .i64 0] /\ O = [Zmp A c l]
theorem Zym {f t : Int} {M : Nat} (hf : -2000000000 <= f /\ f <= 2000000000) (ht : t + 1 = f + M) (h0 : 0 < M) (hM : M <= 1000) : decide ((1000 : Int) < IntKind.u64.wrap (IntKind.u64.wrap t - IntKind.u64.wrap f)) = false := by
 refine decide_eq_false ?_
 simp [IntKind.wrap, IntKind.signed, IntKind.bits]
 omega
theorem Zvq (A : Option Addr) (c : Nat) (l : List Zaa) (f t : Int) (M : Nat) (w : World) (hG : Glob w) (hA : RdSl w A c Zaa.enc 11 l) (hn : l.length <= 1000000) (hR : ∀ r ∈ l, -4611686018427387904 <= r.save /\ r.save <= 4611686018427387904)
  (hf : -2000000000 <= f /\ f <= 2000000000) (ht : t + 1 = f + M) (hM0 : 0 < M) (hM : M <= 1000) :
  Does Tryz.prog 177 [.slice A l.length c, .int .i64 f, .int .i64 t] w (Zzj (Zct (allC l (Zah l) f M))) := by
 have e1 : decide (t < f) = false := decide_eq_false (by omega)
 have e2 := Zym hf ht hM0 hM
 have hon := fun (i : Nat) r (hi : l[i]? = some r) y w' (hw : Bel w.heap.size w w') => Zf6 A c l i y r w' (hG.up hw) (hA.up hw) hi hn hR
 generalize Zah l = least at *
 obtain ⟨res, hres⟩ : ∃ res, allC l least f M = res := ⟨_, rfl⟩
 rw [hres]
 refine Zab Tryz.func177 rfl rfl rfl rfl ?_
 repeat (first | (apply RL_pu; rfl; (first | (apply Pu_sub'; rfl; rfl; (constructor <;> omega)) | (apply ZtP; rfl; rfl) | (apply ZaM; rfl; rfl; exact e2) | (apply Zbg; rfl; rfl; exact e1) | (apply Pu_convI; rfl))) | (refine js ?_; (refine bx ?_; intro bk)) | refine walk1 ?_)
 refine Zfc 92 3 ?_
 obtain ⟨N, hN⟩ : ∃ N : Int, N = (M : Int) := ⟨_, rfl⟩
 rw [show t - f + 1 = N by omega]
 refine Zao [(0, .slice A l.length c), (1, .int .i64 f), (27, .int .i64 N)] [] (fun g : IG => [(8, .slice g.A g.m g.c), (28, .int .i64 g.k)]) (fun g => [.row (.slice g.A g.m g.c) 92 3 g.m g.xs])
  (fun g => g.k <= M /\ g.m = g.acc.length /\ g.xs = g.acc.flatMap Zad.enc /\ g.m <= g.k * 1000000 /\ g.acc = allC l least f g.k) (fun g => M - g.k) ⟨0, none, 0, 0, [], []⟩ SFA SOA ⟨Nat.zero_le _, rfl, rfl, Nat.le_refl _, rfl⟩ ?_
 rintro ⟨k, A1, c1, m, xs, acc⟩ ⟨hk, hm, hx, hmk, hi⟩
 dsimp only at hk hm hx hmk hi ⊢
 repeat (first | (refine js ?_; (refine bx ?_; intro bk)) | refine walk ?_)
 refine Zaf rfl (fun hc => ?_) (fun hc => ?_)
 ·have hk2 : k < M := by have := of_decide_eq_true hc; omega
  obtain ⟨nxt, hnxt⟩ : ∃ nxt, allC l least f (k + 1) = nxt := ⟨_, rfl⟩
  have hst : acc ++ ZdE least (f + k) l 0 = nxt := by rw [<- hnxt, allC, hi]
  repeat (first | (refine js ?_; (refine bx ?_; intro bk)) | refine walk ?_)
  refine Zao [(0, .slice A l.length c), (1, .int .i64 f), (27, .int .i64 N), (28, .int .i64 k), (9, .int .i64 k), (31, .slice A l.length c), (32, .int .i64 l.length)] [] (fun g : IG => [(8, .slice g.A g.m g.c), (33, .int .i64 g.k)]) (fun g => [.row (.slice g.A g.m g.c) 92 3 g.m g.xs])
   (fun g => g.k <= l.length /\ g.m = g.acc.length /\ g.xs = g.acc.flatMap Zad.enc /\ g.m <= k * 1000000 + g.k /\ g.acc ++ ZdE least (f + k) (l.drop g.k) g.k = nxt) (fun g => l.length - g.k) ⟨0, A1, c1, m, xs, acc⟩ SFA SOA ⟨Nat.zero_le _, hm, hx, Nat.le_trans hmk (Nat.le_add_right _ _), by dsimp only; rw [List.drop_zero]; exact hst⟩ ?_
  clear hm hx hmk hi hst hc
  rintro ⟨i, A1, c1, m, xs, acc⟩ ⟨hil, hm, hx, hmk, hi⟩
  dsimp only at hil hm hx hmk hi ⊢
  repeat (first | (refine js ?_; (refine bx ?_; intro bk)) | refine walk ?_)
  refine Zaf rfl (fun hc => ?_) (fun hc => ?_)
  ·simp only [decide_eq_true_eq, Int.ofNat_lt] at hc
   have ho := hon i _ (List.getElem?_eq_getElem hc) (f + (k : Int))
   rw [Zan hc, ZdE] at hi
   generalize onR least l[i] i (f + (k : Int)) = o at *
   cases o with
   | none =>
    simp only [evV, Zad.enc, dEv0, Option.isSome, Option.toList, List.nil_append] at ho hi
    repeat (first | (refine js ?_; (first | (refine Zac ho ?_) | (refine bx ?_; intro bk))) | refine walk ?_)
    exact ⟨⟨i + 1, A1, c1, m, xs, acc⟩, OA, ⟨OA, hm, hx, OA, hi⟩, SFA, SOA⟩
   | some e =>
    obtain ⟨ey, er, en⟩ := e
    simp only [evV, Zad.enc, Option.isSome, Option.toList] at ho hi
    repeat (first | (refine js ?_; (first | (refine Zac ho ?_) | (apply ZaA; rfl; rfl; (intro A' c'; (focus repeat' constructor)); (intro w' _ hO; exact ZbG (hO.of (by repeat' constructor))); rfl; rfl; (simp only [maxLen]; omega); omega; intro A' c' hc1 hc2 hc3) | (refine bx ?_; intro bk))) | refine walk ?_)
    exact ⟨⟨i + 1, A', c', m + 1, xs ++ [.int .i64 ey, .int .i64 er, .int .i64 en], acc ++ [⟨ey, er, en⟩]⟩, OA, ⟨OA, by simp [hm], by rw [hx]; simp [Zad.enc], OA, by rw [<- hi]; simp⟩, SFA, SOA⟩
  ·simp only [decide_eq_false_iff_not, Int.ofNat_lt] at hc
   rw [List.drop_eq_nil_of_le (by omega), ZdE, List.append_nil] at hi
   repeat (first | (refine js ?_; (refine bx ?_; intro bk)) | refine walk ?_)
   exact ⟨⟨k + 1, A1, c1, m, xs, acc⟩, OA, ⟨OA, hm, hx, OA, hi.trans hnxt.symm⟩, SFA, SOA⟩
 ·obtain rfl : k = M := by have := of_decide_eq_false hc; omega
  rw [hres] at hi
  subst hi hm hx
  repeat (first | (refine js ?_; (first | (apply ZdC; rfl; exact ZrK A1 c1 acc w (by omega); exact .refl _; rintro v O' ⟨rfl, rfl⟩) | (refine bx ?_; intro bk))) | refine walk ?_)
  exact ret_2 _ _ [Zmp A1 c1 (Zct acc)] (.tmp rfl) (.tmp rfl) SOA ⟨A1, c1, by rw [Zfv], rfl⟩
theorem Zxw (A : Option Addr) (c : Nat) (l : List Zaa) (w : World) (hG : Glob w) (hA : RdSl w A c Zaa.enc 11 l) (hn : l.length <= 1000000) (hR : ∀ r ∈ l, -4611686018427387904 <= r.save /\ r.save <= 4611686018427387904) :
  Does Tryz.prog 177 [.slice A l.length c, .int .i64 1850, .int .i64 2550] w (Zzj (Zct (allC l (Zah l) 1850 701))) :=
 Zvq A c l 1850 2550 701 w hG hA hn hR (by omega) (by omega) (by omega) (by omega)
def apV : Option Zad -> Value
 | none => .tuple #[.agg (Zad.enc dEv0).toArray, .int .i64 0]
 | some e => .tuple #[.agg (Zad.enc e).toArray, .int .i64 13]
theorem ZnY {l : List Zad} {k : Nat} (h : k + 1 < l.length) : ZcC (l.drop k) = if (l[k + 1]'h).nominal - (l[k]'(by omega)).nominal < 259200 then some (l[k + 1]'h) else ZcC (l.drop (k + 1)) := by
 rw [Zan (show k < l.length by omega), Zan h, ZcC]
theorem Zq4 {l : List Zad} {k : Nat} (h : l.length <= k + 1) : ZcC (l.drop k) = none := by
 by_cases hk : k < l.length
 ·rw [Zan hk, List.drop_eq_nil_of_le h]; rfl
 ·rw [List.drop_eq_nil_of_le (by omega)]; rfl
theorem Zis {l : List Zad} {k : Nat} (h : k < l.length) (j : Nat) (v : Value) (hj : (Zad.enc l[k])[j]? = some v) : (l.flatMap Zad.enc)[k * 3 + j]? = some v := ZaB Zad.len l k _ j v (List.getElem?_eq_getElem h) hj
def ZvU (e : Zad) : Prop := -200000000000000000 <= e.nominal /\ e.nominal <= 200000000000000000
theorem ZoI (least y : Int) (hl : least <= 0) : ∀ (l : List Zaa) (i : Nat), (ZdE least y l i).length <= l.length /\ ∀ e ∈ ZdE least y l i, ZvU e
 | [], _ => ⟨Nat.le_refl _, fun _ h => by cases h⟩
 | r :: l, i => by
  obtain ⟨h1, h2⟩ := ZoI least y hl l (i + 1)
  have h3 := Zr8 least hl r i y
  simp only [ZdE, List.length_append, List.length_cons, List.mem_append]
  generalize onR least r i y = o at *
  cases o with
  | none => exact ⟨by simp only [Option.toList, List.length_nil]; omega, fun e he => by rcases he with h | h; cases h; exact h2 e h⟩
  | some x => exact ⟨by simp only [Option.toList, List.length_cons, List.length_nil]; omega, fun e he => by
    rcases he with h | h
    ·simp only [Option.toList, List.mem_singleton] at h; subst h; exact h3 _ rfl
    ·exact h2 e h⟩
theorem Zoc (l : List Zaa) (least from_ : Int) (hl : least <= 0) : ∀ k, (allC l least from_ k).length <= k * l.length /\ ∀ e ∈ allC l least from_ k, ZvU e
 | 0 => ⟨Nat.zero_le _, fun _ h => by cases h⟩
 | k + 1 => by
  obtain ⟨h1, h2⟩ := Zoc l least from_ hl k
  obtain ⟨h3, h4⟩ := ZoI least (from_ + k) hl l 0
  simp only [allC, List.length_append, List.mem_append, Nat.succ_mul]
  exact ⟨by omega, fun e he => he.elim (h2 e) (h4 e)⟩
theorem ZvH (l : List Zaa) (least from_ : Int) (hl : least <= 0) (hn : l.length <= 1000000) : (allC l least from_ 701).length <= 701000000 := by
 have := (Zoc l least from_ hl 701).1
 omega
theorem ZwZ {G : Prop} (h : G := by (apply ZeI; rfl; rfl; exact hmx)) : G := h
theorem Zm5 {G : Prop} (h : G := by (first | (apply ZaF; rfl; rfl; omega; omega; (intro w' _ hO; exact (ZaU (hO.of (A := .row (.slice A1 s.length c1) 92 3 s.length (s.flatMap Zad.enc)) (by repeat' constructor)) hg1).1)) | (apply ZiW; rfl; (focus repeat' constructor); exact hg1) | (apply ZiW; rfl; (focus repeat' constructor); exact hg2) | (apply Za3; rfl; (focus repeat' constructor); exact hgn; rfl) | (apply Zbg; rfl; rfl; exact hb))) : G := h
theorem Zwt {G : Prop} (h : G := by first | (apply Qy_y; rfl; exact Zm5) | exact QyA) : G := h
theorem Zq6 (A : Option Addr) (c : Nat) (l : List Zaa) (w : World) (hG : Glob w) (hA : RdSl w A c Zaa.enc 11 l) (hn : l.length <= 1000000) (hR : ∀ r ∈ l, -4611686018427387904 <= r.save /\ r.save <= 4611686018427387904) :
  Does Tryz.prog 135 [.slice A l.length c] w (fun v O => v = apV (ZiL l) /\ O = []) := by
 have hin := fun w' (hw : Bel w.heap.size w w') => Zxw A c l w' (hG.up hw) (hA.up hw) hn hR
 have hle := (Zev l hR).2
 have hal := ZvH l (Zah l) 1850 hle hn
 have hok := (Zoc l (Zah l) 1850 hle 701).2
 rw [<- ZmJ]
 rw [show ((allC l (Zah l) 1850 701).mergeSort fun x y => !ltE y x) = Zct (allC l (Zah l) 1850 701) from rfl]
 have hsl := Zfv (allC l (Zah l) 1850 701)
 have hso : ∀ e ∈ Zct (allC l (Zah l) 1850 701), ZvU e := fun e he => hok e (List.mem_mergeSort.1 he)
 generalize Zct (allC l (Zah l) 1850 701) = s at *
 have hsl2 : s.length <= 701000000 := by omega
 clear hal hok hsl
 obtain ⟨res, hres⟩ : ∃ res, ZcC s = res := ⟨_, rfl⟩
 rw [hres]
 have hmx : (if (s.length : Int) - 1 < 0 then 0 else (s.length : Int) - 1) = ((s.length - 1 : Nat) : Int) := by split <;> omega
 refine Zab Tryz.func135 rfl rfl rfl rfl ?_
 repeat (first | (apply RL_pu; rfl; exact ZwZ) | (apply RD_Q; rfl; rfl; decide +kernel; rfl; rfl; exact QyEvI1) | refine walk1 ?_ | (refine jg ?_; (try intro F); (first | (apply Zag (h := fun w' hw _ => hin w' hw); rfl; rintro v O' ⟨A1, c1, rfl, rfl⟩) | (refine bx ?_; intro bk) | (refine stA ?_)); first | refine ⟨_, EndsA, QFEvI1, ?_⟩ | refine fin ?_) | (refine jn ?_; (try intro F); (first | (refine bx ?_; intro bk) | (refine stA ?_) | (apply Zae; first | exact ZwZ | exact PuA)); first | refine ⟨_, EndsA, QFEvI1, ?_⟩ | refine fin ?_) | (apply RD_W; rfl; intro bk))
 have hn1 : s.length - 1 <= 701000000 := by omega
 obtain ⟨b2, hb2⟩ : ∃ b2, bk = b2 := ⟨_, rfl⟩
 rw [hb2]
 clear hb2 bk
 refine Zao [(2, .pointer (some ⟨b2, 0, none⟩)), (4, .slice A1 s.length c1), (19, .int .i64 (s.length - 1 : Nat))] [.row (.slice A1 s.length c1) 92 3 s.length (s.flatMap Zad.enc), .blk b2 [.int .i64 0, .int .i64 0, .int .i64 0] 92] (fun k : Nat => [(20, .int .i64 k)]) (fun _ => []) (fun k => k <= s.length - 1 /\ ZcC (s.drop k) = res) (fun k => s.length - 1 - k) 0 SFA SOA ⟨Nat.zero_le _, hres⟩ ?_
 rintro k ⟨hk, hi⟩
 repeat (first | refine walk ?_ | (refine jn ?_; (try intro F); (first | (refine bx ?_; intro bk) | (refine stA ?_) | (apply Zae; exact PuA)); refine fin ?_) | (apply RD_W; rfl; intro bk))
 refine Zaf rfl (fun hc => ?_) (fun hc => ?_)
 ·simp only [decide_eq_true_eq, Int.ofNat_lt] at hc
  have hk1 : k + 1 < s.length := by omega
  rw [ZnY hk1] at hi
  have hg1 := Zis hk1 2 _ rfl
  have hg2 := Zis (show k < s.length by omega) 2 _ rfl
  have hgn : ∀ j v, (Zad.enc s[k + 1])[j]? = some v -> (s.flatMap Zad.enc)[(k + 1) * 3 + j]? = some v := fun j v hj => Zis hk1 j v hj
  have o1 := hso _ (List.getElem_mem hk1)
  have o2 := hso _ (List.getElem_mem (show k < s.length by omega))
  generalize s[k + 1] = e1 at *
  generalize s[k] = e2 at *
  obtain ⟨y1, r1, n1⟩ := e1
  obtain ⟨y2, r2, n2⟩ := e2
  simp only [Zad.enc, ZvU] at hg1 hg2 hgn o1 o2 hi
  have hlen : (s.length : Int) <= 701000000 := by omega
  have hkk : (k : Int) + 1 < s.length := by omega
  by_cases h3 : n1 - n2 < 259200
  ·rw [if_pos h3] at hi
   subst hi
   have hb : decide (n1 - n2 < 259200) = true := decide_eq_true h3
   repeat (first | (apply RL_pu; rfl; exact Zm5) | (apply RD_Q; rfl; rfl; decide +kernel; rfl; rfl; exact Zwt) | refine walk1 ?_ | (refine jn ?_; (try intro F); (first | (refine bx ?_; intro bk) | (refine stA ?_) | (apply Zae; first | exact Zm5 | exact PuA)); first | refine ⟨_, EndsA, QFEvI2, ?_⟩ | refine fin ?_) | (apply RD_W; rfl; intro bk))
   exact rtC
  ·rw [if_neg h3] at hi
   have hb : decide (n1 - n2 < 259200) = false := decide_eq_false h3
   repeat (first | (apply RL_pu; rfl; exact Zm5) | (apply RD_Q; rfl; rfl; decide +kernel; rfl; rfl; exact Zwt) | refine walk1 ?_ | (refine jn ?_; (try intro F); (first | (refine bx ?_; intro bk) | (refine stA ?_) | (apply Zae; first | exact Zm5 | exact PuA)); first | refine ⟨_, EndsA, QFEvI2, ?_⟩ | refine fin ?_) | (apply RD_W; rfl; intro bk))
   exact ⟨k + 1, OA, ⟨OA, hi⟩, SFA, SOA⟩
 ·simp only [decide_eq_false_iff_not, Int.ofNat_lt] at hc
  rw [Zq4 (show s.length <= k + 1 by omega)] at hi
  subst hi
  repeat (first | refine walk ?_ | (refine jn ?_; (try intro F); (first | (refine bx ?_; intro bk) | (refine stA ?_) | (apply Zae; exact PuA)); refine fin ?_) | (apply RD_W; rfl; intro bk))
  exact rtC
def ZnB (z : ZaY) : Bool := decide (60 < z.eras.length)
theorem Zmm {α : Type} (p : α -> Bool) : ∀ (l : List α) (k : Nat), ZbS p l k = match l.findIdx? p with | some i => ((k + i : Nat) : Int) | none => -1
 | [], _ => rfl
 | x :: l, k => by
  rw [ZbS, List.findIdx?_cons]
  by_cases h : p x = true
  ·rw [if_pos h, if_pos h]; rfl
  ·rw [if_neg h, if_neg h, Zmm p l (k + 1)]
   cases l.findIdx? p with
   | none => rfl
   | some i => simp only [Option.map_some]; congr 1; omega
theorem Znp (n : ByteArray) (A : Option Addr) (m c : Nat) (w : World) : Does Tryz.prog 131 [.agg #[.string n, .slice A m c]] w (fun v O => v = .bool (decide (60 < m)) /\ O = []) := by
 have hb : decide ((60 : Int) < (m : Int)) = decide (60 < m) := by rw [decide_eq_decide]; omega
 refine Zab Tryz.func131 rfl rfl rfl rfl ?_
 repeat (first | (apply RL_pu; rfl; (apply ZaM; rfl; rfl; exact hb)) | (refine js ?_; (refine bx ?_; intro bk)) | refine walk1 ?_)
 exact rtA
theorem ZnM (Ar Az Al As : Option Addr) (cr cz cl cs : Nat) (a : Zai) (w : World) (hA : Zat w Ar Az Al As cr cz cl cs a) (hn : a.zones.length <= 1000000) :
  Does Tryz.prog 130 [.slice Az a.zones.length cz, .func (.func 131) #[] #[]] w (fun v O => v = .int .i64 (ZbS ZnB a.zones 0) /\ O = []) := by
 obtain ⟨res, hres⟩ : ∃ res, ZbS ZnB a.zones 0 = res := ⟨_, rfl⟩
 rw [hres]
 refine Zab Tryz.func130 rfl rfl rfl rfl ?_
 repeat (first | refine walk ?_)
 refine Zao [(0, .slice Az a.zones.length cz), (1, .func (.func 131) #[] #[]), (7, .int .i64 a.zones.length)] [] (fun k : Nat => [(8, .int .i64 k)]) (fun _ => []) (fun k => k <= a.zones.length /\ ZbS ZnB (a.zones.drop k) k = res) (fun k => a.zones.length - k) 0 SFA .nil ⟨Nat.zero_le _, hres⟩ ?_
 rintro k ⟨hk, hi⟩
 repeat (first | refine walk ?_)
 refine Zaf rfl (fun hc => ?_) (fun hc => ?_)
 ·simp only [decide_eq_true_eq, Int.ofNat_lt] at hc
  obtain ⟨hna, cs1, ⟨Ae, ce, _, rfl⟩, hca⟩ := hA.z k _ (List.getElem?_eq_getElem hc)
  rw [Zan hc, ZbS] at hi
  generalize a.zones[k] = z at *
  have h1 : ∀ w', Does Tryz.prog 131 ([] ++ [.agg #[.string z.name, .slice Ae z.eras.length ce]] ++ []) w' (fun v O => v = .bool (decide (60 < z.eras.length)) /\ O = []) := fun w' => Znp z.name Ae z.eras.length ce w'
  rw [show decide (60 < z.eras.length) = ZnB z from rfl] at h1
  generalize ZnB z = mb at *
  cases mb with
  | true =>
   rw [if_pos rfl] at hi
   subst hi
   repeat (first | (apply RL_pu; rfl; exact PuI) | (refine js ?_; (refine Zgd (fun w' hw _ => h1 w') ?_)) | refine walk1 ?_)
   exact rtA
  | false =>
   rw [if_neg (by decide)] at hi
   repeat (first | (apply RL_pu; rfl; exact PuI) | (refine js ?_; (refine Zgd (fun w' hw _ => h1 w') ?_)) | refine walk1 ?_)
   exact ⟨k + 1, OA, ⟨OA, hi⟩, SFA, .nil⟩
 ·simp only [decide_eq_false_iff_not, Int.ofNat_lt] at hc
  rw [List.drop_eq_nil_of_le (by omega), ZbS] at hi
  subst hi
  repeat (first | refine walk ?_)
  exact rtA
theorem Zuz {G : Prop} (h : G := by (apply ZaM; rfl; rfl; exact b1)) : G := h
theorem ZoD {G : Prop} (h : G := by (first | exact Zuz | (apply ZaM; rfl; rfl; exact b2))) : G := h
theorem Zuy {G : Prop} (h : G := by (first | exact ZoD | (apply ZaM; rfl; rfl; exact b3))) : G := h
theorem Zux {G : Prop} (h : G := by (first | exact Zuy | (apply ZaM; rfl; rfl; exact b4))) : G := h
theorem Zp9 (Ar Az Al As : Option Addr) (cr cz cl cs : Nat) (a : Zai) (w : World) (hA : Zat w Ar Az Al As cr cz cl cs a) (hn : a.zones.length <= 1000000) :
  Does Tryz.prog 87 [srcV Ar Az Al As cr cz cl cs a] w (fun v O => v = ptV (Zfg a) /\ O = []) := by
 have hix := fun w' (hw : Bel w.heap.size w w') => ZnM Ar Az Al As cr cz cl cs a w' (hA.up hw) hn
 rw [Zmm] at hix
 unfold Zfg
 rw [show (fun z : ZaY => decide (60 < z.eras.length)) = ZnB from rfl]
 generalize a.zones.findIdx? ZnB = fi at *
 refine Zab Tryz.func87 rfl rfl rfl rfl ?_
 by_cases h1 : 2000 < a.rules.length
 ·have b1 : decide ((2000 : Int) < a.rules.length) = true := decide_eq_true (by omega)
  rw [if_pos h1]
  repeat (first | (apply RL_pu; rfl; exact Zuz) | (refine js ?_; (refine bx ?_; intro bk)) | refine walk1 ?_)
  exact rtC
 have b1 : decide ((2000 : Int) < a.rules.length) = false := decide_eq_false (by omega)
 rw [if_neg h1]
 by_cases h2 : 500 < a.zones.length
 ·have b2 : decide ((500 : Int) < a.zones.length) = true := decide_eq_true (by omega)
  rw [if_pos h2]
  repeat (first | (apply RL_pu; rfl; exact ZoD) | (refine js ?_; (refine bx ?_; intro bk)) | refine walk1 ?_)
  exact rtC
 have b2 : decide ((500 : Int) < a.zones.length) = false := decide_eq_false (by omega)
 rw [if_neg h2]
 cases fi with
 | some i =>
  dsimp only at hix ⊢
  rw [Nat.zero_add] at hix
  have b3 : decide ((0 : Int) <= (i : Int)) = true := decide_eq_true (by omega)
  repeat (first | (apply RL_pu; rfl; (first | exact ZoD | (apply Zc3; rfl; rfl; exact b3))) | (refine js ?_; (first | (refine Zac hix ?_) | (refine bx ?_; intro bk))) | refine walk1 ?_)
  exact rtC
 | none =>
  dsimp only at hix ⊢
  by_cases h3 : 1000 < a.links.length
  ·have b3 : decide ((1000 : Int) < a.links.length) = true := decide_eq_true (by omega)
   rw [if_pos h3]
   repeat (first | (apply RL_pu; rfl; exact Zuy) | (refine js ?_; (first | (refine Zac hix ?_) | (refine bx ?_; intro bk))) | refine walk1 ?_)
   exact rtC
  have b3 : decide ((1000 : Int) < a.links.length) = false := decide_eq_false (by omega)
  rw [if_neg h3]
  by_cases h4 : 2000 < a.shifts.length
  ·have b4 : decide ((2000 : Int) < a.shifts.length) = true := decide_eq_true (by omega)
   rw [if_pos h4]
   repeat (first | (apply RL_pu; rfl; exact Zux) | (refine js ?_; (first | (refine Zac hix ?_) | (refine bx ?_; intro bk))) | refine walk1 ?_)
   exact rtC
  have b4 : decide ((2000 : Int) < a.shifts.length) = false := decide_eq_false (by omega)
  rw [if_neg h4]
  repeat (first | (apply RL_pu; rfl; exact Zux) | (refine js ?_; (first | (refine Zac hix ?_) | (refine bx ?_; intro bk))) | refine walk1 ?_)
  exact rtC
theorem ZnF (Ar Az Al As : Option Addr) (cr cz cl cs : Nat) (a : Zai) (w : World) (hA : Zat w Ar Az Al As cr cz cl cs a) (hS : Zhr a) :
  Does Tryz.prog 90 [srcV Ar Az Al As cr cz cl cs a] w (fun v O => v = ptV (Zcp a) /\ O = []) := by
 have h := fun w' (hw : Bel w.heap.size w w') => Zqz Ar Az Al As cr cz cl cs a w' (hA.up hw) hS
 refine Zab Tryz.func90 rfl rfl rfl rfl ?_
 generalize Zcp a = o at *
 cases o with
 | none =>
  simp only [ptV, plV, Zay.enc] at h ⊢
  repeat (first | (refine js ?_; (first | (refine Zac h ?_) | (refine bx ?_; intro bk))) | refine walk ?_)
  exact rtC
 | some pe =>
  obtain ⟨⟨p1, p2, p3⟩, e⟩ := pe
  simp only [ptV, plV, Zay.enc] at h ⊢
  repeat (first | (refine js ?_; (first | (refine Zac h ?_) | (refine bx ?_; intro bk))) | refine walk ?_)
  exact rtC
structure RlG where
 k : Nat
 i : Nat
theorem Zns (x : ByteArray) (r : Zaa) (l : List Zaa) (i k : Nat) : Zdq x (r :: l) i k = if r.name = x then (match i with | 0 => ⟨1, k, 0⟩ | i + 1 => Zdq x l i (k + 1)) else Zdq x l i (k + 1) := by cases i <;> rfl
theorem Zqf (x : ByteArray) (i k : Nat) : Zdq x [] i k = ⟨0, 0, 0⟩ := by cases i <;> rfl
theorem ZoC {G : Prop} (h : G := by (first | exact PuI | (apply Ze7; rfl; rfl; exact hb))) : G := h
theorem ZrQ (Ar Az Al As : Option Addr) (cr cz cl cs : Nat) (a : Zai) (x : ByteArray) (i : Nat) (w : World) (hA : Zat w Ar Az Al As cr cz cl cs a) (hn : a.rules.length <= 1000000) (hi : i <= 1000000) :
  Does Tryz.prog 136 [srcV Ar Az Al As cr cz cl cs a, .string x, .int .i64 i] w (fun v O => v = plV (Zdq x a.rules i 0) /\ O = []) := by
 obtain ⟨res, hres⟩ : ∃ res, Zdq x a.rules i 0 = res := ⟨_, rfl⟩
 rw [hres]
 refine Zab Tryz.func136 rfl rfl rfl rfl ?_
 repeat (first | (refine js ?_; (refine bx ?_; intro bk)) | refine walk ?_)
 obtain ⟨b6, hb6⟩ : ∃ b6, bk = b6 := ⟨_, rfl⟩
 rw [hb6]
 clear hb6 bk
 refine Zao [(1, .string x), (6, .pointer (some ⟨b6, 0, none⟩)), (11, .slice Ar a.rules.length cr), (12, .int .i64 a.rules.length)] [.blk b6 [.int .i64 0, .int .i64 0, .int .i64 0] 131] (fun g : RlG => [(2, .int .i64 g.i), (13, .int .i64 g.k)]) (fun _ => []) (fun g => g.k <= a.rules.length /\ g.i <= 1000000 /\ Zdq x (a.rules.drop g.k) g.i g.k = res) (fun g => a.rules.length - g.k) ⟨0, i⟩ SFA SOA ⟨Nat.zero_le _, hi, hres⟩ ?_
 clear hi hres
 rintro ⟨k, i⟩ ⟨hk, hi6, hi⟩
 dsimp only at hk hi6 hi ⊢
 repeat (first | (refine js ?_; (refine bx ?_; intro bk)) | refine walk ?_)
 refine Zaf rfl (fun hc => ?_) (fun hc => ?_)
 ·simp only [decide_eq_true_eq, Int.ofNat_lt] at hc
  obtain ⟨hna, hca⟩ := hA.r.rd k _ (List.getElem?_eq_getElem hc)
  rw [Zan hc, Zns] at hi
  generalize a.rules[k] = r at *
  by_cases hx : r.name = x
  ·have hb : (!decide (r.name = x)) = false := by rw [decide_eq_true hx]; rfl
   rw [if_pos hx] at hi
   cases i with
   | zero =>
    dsimp only at hi
    subst hi
    repeat (first | (apply RL_pu; rfl; exact ZoC) | (refine js ?_; (refine bx ?_; intro bk)) | refine walk1 ?_)
    exact ret_1 _ [] (.cellB rfl (by repeat' constructor) rfl rfl) .nil ⟨rfl, rfl⟩
   | succ i =>
    dsimp only at hi
    have hb2 : decide (((i + 1 : Nat) : Int) = 0) = false := decide_eq_false (by omega)
    repeat (first | (apply RL_pu; rfl; (first | exact ZoC | (apply ZaC; rfl; rfl; exact hb2))) | (refine js ?_; (refine bx ?_; intro bk)) | refine walk1 ?_)
    rw [show ((i + 1 : Nat) : Int) - 1 = (i : Int) by omega]
    exact ⟨⟨k + 1, i⟩, OA, ⟨OA, OA, hi⟩, SFA, SOA⟩
  ·have hb : (!decide (r.name = x)) = true := by rw [decide_eq_false hx]; rfl
   rw [if_neg hx] at hi
   repeat (first | (apply RL_pu; rfl; exact ZoC) | (refine js ?_; (refine bx ?_; intro bk)) | refine walk1 ?_)
   exact ⟨⟨k + 1, i⟩, OA, ⟨OA, OA, hi⟩, SFA, SOA⟩
 ·simp only [decide_eq_false_iff_not, Int.ofNat_lt] at hc
  rw [List.drop_eq_nil_of_le (by omega), Zqf] at hi
  subst hi
  repeat (first | (refine js ?_; (refine bx ?_; intro bk)) | refine walk ?_)
  exact ret_1 _ [] (.cellB rfl (by repeat' constructor) rfl rfl) .nil ⟨rfl, rfl⟩
theorem ZgD : ∀ (l : List Zaa) (acc : List ByteArray) (x : ByteArray), x ∈ ZbU l acc -> x ∈ acc \/ ∃ r ∈ l, r.name = x
 | [], acc, x, h => .inl h
 | r :: l, acc, x, h => by
  rw [ZbU] at h
  split at h
  ·rcases ZgD l acc x h with h | ⟨q, hq, e⟩
   ·exact .inl h
   ·exact .inr ⟨q, List.mem_cons_of_mem _ hq, e⟩
  ·rcases ZgD l _ x h with h | ⟨q, hq, e⟩
   ·rcases List.mem_append.1 h with h | h
    ·exact .inl h
    ·simp only [List.mem_singleton] at h; exact .inr ⟨r, List.mem_cons_self, h.symm⟩
   ·exact .inr ⟨q, List.mem_cons_of_mem _ hq, e⟩
theorem ZgE : ∀ (l : List Zaa) (acc : List ByteArray), (ZbU l acc).length <= acc.length + l.length
 | [], acc => Nat.le_refl _
 | r :: l, acc => by
  rw [ZbU]
  split
  ·have := ZgE l acc; simp only [List.length_cons]; omega
  ·have := ZgE l (acc ++ [r.name]); simp only [List.length_append, List.length_cons, List.length_nil] at this ⊢; omega
theorem Zj1 : ∀ (l : List Zad) (e : Zad), ZcC l = some e -> e ∈ l
 | [], _, h => by cases h
 | [_], _, h => by cases h
 | a :: b :: l, e, h => by
  rw [ZcC] at h
  split at h
  ·simp only [Option.some.injEq] at h; subst h; exact List.mem_cons_of_mem _ List.mem_cons_self
  ·exact List.mem_cons_of_mem _ (Zj1 (b :: l) e h)
theorem Zjm (least y : Int) : ∀ (l : List Zaa) (i : Nat), ∀ e ∈ ZdE least y l i, ∃ j : Nat, e.rule = j /\ j < i + l.length
 | [], _ => fun e h => by cases h
 | r :: l, i => fun e he => by
  rw [ZdE] at he
  rcases List.mem_append.1 he with h | h
  ·have : onR least r i y = some e := by
    cases ho : onR least r i y with
    | none => rw [ho] at h; cases h
    | some x => rw [ho] at h; simp only [Option.toList, List.mem_singleton] at h; rw [h]
   unfold onR at this
   split at this
   ·cases this
   ·split at this
    ·cases this
    ·simp only [Option.some.injEq] at this
     subst this
     exact ⟨i, rfl, by simp⟩
  ·obtain ⟨j, h1, h2⟩ := Zjm least y l (i + 1) e h
   exact ⟨j, h1, by simp only [List.length_cons]; omega⟩
theorem ZmL (l : List Zaa) (least from_ : Int) : ∀ k, ∀ e ∈ allC l least from_ k, ∃ j : Nat, e.rule = j /\ j < l.length
 | 0 => fun e h => by cases h
 | k + 1 => fun e he => by
  rw [allC] at he
  rcases List.mem_append.1 he with h | h
  ·exact ZmL l least from_ k e h
  ·have := Zjm _ _ _ _ e h
   simpa using this
theorem Zoa (l : List Zaa) (e : Zad) (h : ZiL l = some e) : ∃ j : Nat, e.rule = j /\ j < l.length := by
 rw [<- ZmJ] at h
 exact ZmL _ _ _ _ e (List.mem_mergeSort.1 (Zj1 _ _ h))
def Zk2 (s : Zai) : Prop := ∀ r ∈ s.rules, (-4611686018427387904 <= r.save /\ r.save <= 4611686018427387904) /\ r.from_ <= 4611686018427387904
theorem Zsd {l : List Zaa} {x : ByteArray} {r : Zaa} (h : r ∈ ofB l x) : r ∈ l := (List.mem_filter.1 h).1
def SavI (s : Zai) : Prop := ∀ r ∈ s.rules, -9223372036854775808 <= r.save /\ r.save <= 9223372036854775807
theorem Zf4 (least : Int) : ∀ (l : List Zaa) (k : Nat), Zbb least l k = none -> ∀ r ∈ l, Zb9 r least = 0
 | [], _, _, _, h => by cases h
 | x :: l, k, h, r, hr => by
  rw [Zbb] at h
  by_cases h0 : Zb9 x least = 0
  ·rw [if_pos h0] at h
   rcases List.mem_cons.1 hr with rfl | hr
   ·exact h0
   ·exact Zf4 least l (k + 1) h r hr
  ·rw [if_neg h0] at h
   cases h
theorem ZrR {r : Zaa} {least : Int} (h : Zb9 r least = 0) : (-4611686018427387904 <= r.save /\ r.save <= 4611686018427387904) /\ r.from_ <= 4611686018427387904 := by
 unfold Zb9 at h
 split at h
 ·cases h
 ·rename_i h1
  split at h
  ·cases h
  ·split at h
   ·cases h
   ·split at h
    ·cases h
    ·split at h
     ·cases h
     ·rename_i h2
      have e2 : (decide (-10800 <= r.save) && decide (r.save <= 10800)) = true := by
       cases hh : (decide (-10800 <= r.save) && decide (r.save <= 10800)) with
       | true => rfl
       | false => exact absurd hh h2
      have e1 : Zb6 r.from_ = true := by
       cases hh : Zb6 r.from_ with
       | true => rfl
       | false => rw [hh] at h1; exact absurd rfl h1
      unfold Zb6 at e1
      simp only [Bool.and_eq_true, decide_eq_true_eq] at e1 e2
      omega
theorem ZlF {l : List Zaa} (h : (Ze9 l).2 = 0) : ∀ r ∈ l, (-4611686018427387904 <= r.save /\ r.save <= 4611686018427387904) /\ r.from_ <= 4611686018427387904 := by
 intro r hr
 unfold Ze9 at h
 cases hf : Zbb (Zah l) l 0 with
 | none => exact ZrR (Zf4 _ l 0 hf r hr)
 | some x =>
  rw [hf] at h
  exfalso
  have : ∀ (l : List Zaa) (k : Nat) (x : Nat × Int) (m : Int), Zbb m l k = some x -> x.2 ≠ 0 := fun l => by
   induction l with
   | nil => intro k x m h; cases h
   | cons y l ih =>
    intro k x m h
    rw [Zbb] at h
    split at h
    ·exact ih _ _ _ h
    ·rename_i h0
     simp only [Option.some.injEq] at h
     rw [<- h]
     exact h0
  exact this _ _ _ _ hf h
theorem Zeo : ∀ (l : List Zaa) (acc : List ByteArray), (∀ x ∈ acc, x ∈ ZbU l acc) /\ ∀ r ∈ l, r.name ∈ ZbU l acc
 | [], acc => ⟨fun _ h => h, fun _ h => by cases h⟩
 | y :: l, acc => by
  rw [ZbU]
  by_cases hm : memB y.name acc = true
  ·rw [if_pos hm]
   have ih := Zeo l acc
   refine ⟨ih.1, fun r hr => ?_⟩
   rcases List.mem_cons.1 hr with rfl | hr
   ·refine ih.1 _ ?_
    have : ∀ (l : List ByteArray) (x : ByteArray), memB x l = true -> x ∈ l := fun l => by
     induction l with
     | nil => intro x h; cases h
     | cons z l ih2 =>
      intro x h
      rw [memB, Bool.or_eq_true, decide_eq_true_eq] at h
      rcases h with rfl | h
      ·exact List.mem_cons_self
      ·exact List.mem_cons_of_mem _ (ih2 x h)
    exact this _ _ hm
   ·exact ih.2 r hr
  ·rw [if_neg hm]
   have ih := Zeo l (acc ++ [y.name])
   refine ⟨fun x hx => ih.1 x (List.mem_append_left _ hx), fun r hr => ?_⟩
   rcases List.mem_cons.1 hr with rfl | hr
   ·exact ih.1 _ (List.mem_append_right _ (List.mem_singleton.2 rfl))
   ·exact ih.2 r hr
theorem ZhR (rs : List Zaa) : ∀ l : List ByteArray, Zdn rs l = none -> ∀ x ∈ l, (Ze9 (ofB rs x)).2 = 0
 | [], _, _, h => by cases h
 | y :: l, h, x, hx => by
  rw [Zdn] at h
  cases hf : ZcE rs y with
  | some z => rw [hf] at h; cases h
  | none =>
   rw [hf] at h
   rcases List.mem_cons.1 hx with rfl | hx
   ·unfold ZcE at hf
    split at hf
    ·cases hf
    ·split at hf
     ·cases hf
     ·rename_i h2
      exact Decidable.of_not_not h2
   ·exact ZhR rs l h x hx
theorem ZrN {s : Zai} (h : Zjb s = none) : Zk2 s := fun r hr =>
 ZlF (ZhR s.rules _ h r.name ((Zeo s.rules []).2 r hr)) r (List.mem_filter.2 ⟨hr, decide_eq_true rfl⟩)
theorem Znw (l : List Zaa) (x : ByteArray) : (ofB l x).length <= l.length := List.length_filter_le _ _
theorem Zim (least : Int) : ∀ (l : List Zaa) (i : Nat) (j : Nat) (e : Int), Zbb least l i = some (j, e) -> j < i + l.length
 | [], _, _, _, h => by cases h
 | r :: l, i, j, e, h => by
  rw [Zbb] at h
  split at h
  ·have := Zim least l (i + 1) j e h; simp only [List.length_cons]; omega
  ·simp only [Option.some.injEq, Prod.mk.injEq] at h; simp only [List.length_cons]; omega
theorem ZuS (l : List Zaa) : (Ze9 l).1 <= l.length := by
 unfold Ze9
 split
 ·rename_i x h
  obtain ⟨j, e⟩ := x
  have := Zim _ l 0 j e h
  simp only at this ⊢
  omega
 ·repeat' split
  all_goals exact Nat.zero_le _
theorem Zli {G : Prop} (h : G := by (first | (apply ZaF; rfl; rfl; omega; omega; (intro w' _ hO; exact (ZaU (hO.of (A := .row (.slice An N.length cn) 9 1 N.length (N.flatMap ZaW)) (by repeat' constructor)) hg1).1)) | (apply Zk7; rfl; (focus repeat' constructor); exact hg1))) : G := h
theorem Zqw (Ar Az Al As : Option Addr) (cr cz cl cs : Nat) (a : Zai) (w : World) (hG : Glob w) (hA : Zat w Ar Az Al As cr cz cl cs a) (hS : Zhr a) (hV : SavI a) :
  Does Tryz.prog 88 [srcV Ar Az Al As cr cz cl cs a] w (fun v O => v = ptV (Zjb a) /\ O = []) := by
 have hn := hS.nr
 have hnm := fun w' (hw : Bel w.heap.size w w') => Zqq Ar Az Al As cr cz cl cs a w' (hA.up hw) hn
 have hNm := ZgD a.rules []
 have hNl := ZgE a.rules []
 unfold Zjb
 generalize ZbU a.rules [] = N at *
 simp only [List.length_nil, Nat.zero_add] at hNl
 obtain ⟨res, hres⟩ : ∃ res, Zdn a.rules N = res := ⟨_, rfl⟩
 rw [hres]
 refine Zab Tryz.func88 rfl rfl rfl rfl ?_
 repeat (first | (refine js ?_; (first | (apply Zag (h := fun w' hw _ => hnm w' hw); rfl; rintro v O' ⟨An, cn, rfl, rfl⟩) | (refine bx ?_; intro bk))) | refine walk ?_)
 rename_i b1
 obtain ⟨b2, hb2⟩ : ∃ b2, bk = b2 := ⟨_, rfl⟩
 rw [hb2]
 clear hb2 bk
 refine Zao [(1, .pointer (some ⟨b1, 0, none⟩)), (2, .pointer (some ⟨b2, 0, none⟩)), (12, .slice An N.length cn), (13, .int .i64 N.length)] [.row (.slice An N.length cn) 9 1 N.length (N.flatMap ZaW), .blk b2 [.int .i64 0, .int .i64 0, .int .i64 0] 131, .blk b1 [.slice Ar a.rules.length cr, .slice Az a.zones.length cz, .slice Al a.links.length cl, .slice As a.shifts.length cs] 173]
  (fun k : Nat => [(14, .int .i64 k)]) (fun _ => []) (fun k => k <= N.length /\ Zdn a.rules (N.drop k) = res) (fun k => N.length - k) 0 SFA SOA ⟨Nat.zero_le _, hres⟩ ?_
 clear hnm hres
 rintro k ⟨hk, hi⟩
 repeat (first | (refine js ?_; (refine bx ?_; intro bk)) | refine walk ?_)
 refine Zaf rfl (fun hc => ?_) (fun hc => ?_)
 ·simp only [decide_eq_true_eq, Int.ofNat_lt] at hc
  have hg1 : (N.flatMap ZaW)[k * 1]? = some (.string N[k]) := by
   have := ZaB (enc := ZaW) (fun _ => rfl) N k _ 0 (.string N[k]) (List.getElem?_eq_getElem hc) rfl
   simpa using this
  have hxm := hNm _ (List.getElem_mem hc)
  rw [Zan hc, Zdn] at hi
  generalize N[k] = x at *
  have hxs : x.size <= 1000000000 := by
   rcases hxm with h | ⟨r, hr, rfl⟩
   ·cases h
   ·exact (hS.rs r hr).1
  have hof := fun w' (hw : Bel w.heap.size w w') => ZeQ Ar Az Al As cr cz cl cs a x w' (hA.up hw) hn
  have hset := fun w' => ZuQ x (by omega) w'
  have hRs : ∀ r ∈ ofB a.rules x, r ∈ a.rules := fun r h => Zsd h
  have hRl := Znw a.rules x
  have hck := fun A3 c3 w' (hw : Bel w.heap.size w w') h => ZlE A3 c3 (ofB a.rules x) w' (hG.up hw) h (by omega) (fun r hr => ⟨hV r (hRs r hr), by have := (hS.rs r (hRs r hr)).2; omega⟩)
  have hap := fun (hz : (Ze9 (ofB a.rules x)).2 = 0) A3 c3 w' (hw : Bel w.heap.size w w') h => Zq6 A3 c3 (ofB a.rules x) w' (hG.up hw) h (by omega) (fun r hr => (ZlF hz r hr).1)
  have hru0 := fun (i : Nat) (hi : i <= 1000000) w' (hw : Bel w.heap.size w w') => ZrQ Ar Az Al As cr cz cl cs a x i w' (hA.up hw) hn hi
  have hcl := ZuS (ofB a.rules x)
  have har := Zoa (ofB a.rules x)
  unfold ZcE at hi
  generalize ofB a.rules x = R at *
  cases hsb : setB x with
  | false =>
   rw [hsb] at hi hset
   rw [if_pos rfl] at hi
   dsimp only at hi
   have hru := hru0 0 (Nat.zero_le _)
   generalize Zdq x a.rules 0 0 = pl at *
   obtain ⟨p1, p2, p3⟩ := pl
   simp only [plV, Zay.enc] at hru
   subst hi
   simp only [ptV, plV, Zay.enc]
   repeat (first | (apply RL_pu; rfl; exact Zli) | (refine js ?_; (first | (apply Zag (h := fun w' hw _ => hof w' hw); rfl; rintro v O' ⟨A3, c3, rfl, rfl⟩) | (refine Zac (fun w' hw => hset w') ?_) | (refine Zac hru ?_) | (refine bx ?_; intro bk))) | refine walk1 ?_)
   exact rtC
  | true =>
   rw [hsb] at hi hset
   rw [if_neg (by decide)] at hi
   generalize Ze9 R = rc at *
   obtain ⟨ci, ce⟩ := rc
   dsimp only at hi hck hcl hap
   by_cases hce : ce = 0
   ·subst hce
    replace hap := hap rfl
    rw [if_neg (fun h => h rfl)] at hi
    generalize ZiL R = ap at *
    cases ap with
    | none =>
     simp only [apV, Zad.enc, dEv0] at hap
     dsimp only at hi
     repeat (first | (apply RL_pu; rfl; exact Zli) | (refine js ?_; (first | (apply Zag (h := fun w' hw _ => hof w' hw); rfl; rintro v O' ⟨A3, c3, rfl, rfl⟩) | (refine Zac (fun w' hw => hset w') ?_) | (refine ZaV (fun w' hw hO => hck A3 c3 w' hw (Zbj Zaa.len (hO.of (A := .row (.slice A3 R.length c3) 82 11 R.length (R.flatMap Zaa.enc)) (by repeat' constructor)))) ?_) | (refine ZaV (fun w' hw hO => hap A3 c3 w' hw (Zbj Zaa.len (hO.of (A := .row (.slice A3 R.length c3) 82 11 R.length (R.flatMap Zaa.enc)) (by repeat' constructor)))) ?_) | (refine bx ?_; intro bk))) | refine walk1 ?_)
     exact ⟨k + 1, OA, ⟨OA, hi⟩, SFA, SOA⟩
    | some e =>
     obtain ⟨j, hj, hjl⟩ := har e rfl
     obtain ⟨ey, er, en⟩ := e
     dsimp only at hj
     subst hj
     simp only [apV, Zad.enc] at hap
     simp only [Int.toNat_natCast] at hi
     have hru := hru0 j (by omega)
     generalize Zdq x a.rules j 0 = pl at *
     obtain ⟨p1, p2, p3⟩ := pl
     simp only [plV, Zay.enc] at hru
     subst hi
     simp only [ptV, plV, Zay.enc]
     repeat (first | (apply RL_pu; rfl; exact Zli) | (refine js ?_; (first | (apply Zag (h := fun w' hw _ => hof w' hw); rfl; rintro v O' ⟨A3, c3, rfl, rfl⟩) | (refine Zac (fun w' hw => hset w') ?_) | (refine ZaV (fun w' hw hO => hck A3 c3 w' hw (Zbj Zaa.len (hO.of (A := .row (.slice A3 R.length c3) 82 11 R.length (R.flatMap Zaa.enc)) (by repeat' constructor)))) ?_) | (refine ZaV (fun w' hw hO => hap A3 c3 w' hw (Zbj Zaa.len (hO.of (A := .row (.slice A3 R.length c3) 82 11 R.length (R.flatMap Zaa.enc)) (by repeat' constructor)))) ?_) | (refine Zac hru ?_) | (refine bx ?_; intro bk))) | refine walk1 ?_)
     exact rtC
   ·rw [if_pos hce] at hi
    dsimp only at hi
    have hb : decide (ce = 0) = false := decide_eq_false hce
    have hb2 : (!decide (ce = 0)) = true := by rw [hb]; rfl
    have hru := hru0 ci (by omega)
    generalize Zdq x a.rules ci 0 = pl at *
    obtain ⟨p1, p2, p3⟩ := pl
    simp only [plV, Zay.enc] at hru
    subst hi
    simp only [ptV, plV, Zay.enc]
    repeat (first | (apply RL_pu; rfl; (first | exact Zli | (apply ZaC; rfl; rfl; exact hb) | (apply ZaD; rfl; rfl; exact hb2))) | (refine js ?_; (first | (apply Zag (h := fun w' hw _ => hof w' hw); rfl; rintro v O' ⟨A3, c3, rfl, rfl⟩) | (refine Zac (fun w' hw => hset w') ?_) | (refine ZaV (fun w' hw hO => hck A3 c3 w' hw (Zbj Zaa.len (hO.of (A := .row (.slice A3 R.length c3) 82 11 R.length (R.flatMap Zaa.enc)) (by repeat' constructor)))) ?_) | (refine Zac hru ?_) | (refine bx ?_; intro bk))) | refine walk1 ?_)
    exact rtC
 ·simp only [decide_eq_false_iff_not, Int.ofNat_lt] at hc
  rw [List.drop_eq_nil_of_le (by omega), Zdn] at hi
  subst hi
  repeat (first | (refine js ?_; (refine bx ?_; intro bk)) | refine walk ?_)
  exact rtC
theorem Zys {α : Type} {w : World} {A : Option Addr} {c sz : Nat} {enc : α -> List Value} {l : List α} (h : RdSl w A c enc sz l) (k : Nat) : RdSl w A c enc sz (l.take k) where
 le := by have := h.le; rw [List.length_take]; omega
 cap := h.cap
 rd := fun j x hj => h.rd j x (by
  rw [List.getElem?_take] at hj
  split at hj
  ·exact hj
  ·cases hj)
theorem Zuw {G : Prop} (h : G := by (first | exact PuI | (apply ZaC; rfl; rfl; exact hb))) : G := h
theorem ZoB {G : Prop} (h : G := by (first | exact Zuw | (apply Pu_sliceH; rfl; rfl; omega; omega))) : G := h
theorem Zrw {G G' : Prop} (k : G') (h : Hold G' -> G := by intro k9; (first | (apply RL_pu; rfl; exact ZoB) | (refine js ?_; (first | (refine ZaV (fun w' hw hO => hot A3 c3 w' (Zbj Zaa.len (hO.of (A := .row (.slice A3 R.length c3) 82 11 R.length (R.flatMap Zaa.enc)) (by repeat' constructor)))) ?_) | (refine Zac hco ?_) | (refine ZaV (fun w' hw hO => hle A3 c3 w' (Zbj Zaa.len (hO.of (A := .row (.slice A3 R.length c3) 82 11 R.length (R.flatMap Zaa.enc)) (by repeat' constructor)))) ?_))) | refine walk1 ?_); exact k9.out) : G := h ⟨k⟩
theorem Zl1 (Ar Az Al As : Option Addr) (cr cz cl cs : Nat) (a : Zai) (w : World) (hA : Zat w Ar Az Al As cr cz cl cs a) (hS : Zhr a) :
  Does Tryz.prog 89 [srcV Ar Az Al As cr cz cl cs a] w (fun v O => v = ptV (ZbC a a.shifts [] 0) /\ O = []) := by
 have hn := hS.nr
 have hns := hS.ns
 have hcap := hA.s.le
 obtain ⟨res, hres⟩ : ∃ res, ZbC a a.shifts [] 0 = res := ⟨_, rfl⟩
 rw [hres]
 refine Zab Tryz.func89 rfl rfl rfl rfl ?_
 repeat (first | (refine js ?_; (refine bx ?_; intro bk)) | refine walk ?_)
 rename_i b1
 obtain ⟨b2, hb2⟩ : ∃ b2, bk = b2 := ⟨_, rfl⟩
 rw [hb2]
 clear hb2 bk
 refine Zao [(1, .pointer (some ⟨b1, 0, none⟩)), (2, .pointer (some ⟨b2, 0, none⟩)), (12, .slice As a.shifts.length cs), (13, .int .i64 a.shifts.length)] [.blk b2 [.int .i64 0, .int .i64 0, .int .i64 0] 131, .blk b1 [.slice Ar a.rules.length cr, .slice Az a.zones.length cz, .slice Al a.links.length cl, .slice As a.shifts.length cs] 173]
  (fun k : Nat => [(14, .int .i64 k)]) (fun _ => []) (fun k => k <= a.shifts.length /\ ZbC a (a.shifts.drop k) (a.shifts.take k) k = res) (fun k => a.shifts.length - k) 0 SFA SOA ⟨Nat.zero_le _, hres⟩ ?_
 clear hres
 rintro k ⟨hk, hi⟩
 repeat (first | (refine js ?_; (refine bx ?_; intro bk)) | refine walk ?_)
 refine Zaf rfl (fun hc => ?_) (fun hc => ?_)
 ·simp only [decide_eq_true_eq, Int.ofNat_lt] at hc
  obtain ⟨hna, hca⟩ := hA.s.rd k _ (List.getElem?_eq_getElem hc)
  have htk := List.take_append_getElem hc
  have hco := fun w' (hw : Bel w.heap.size w w') => ZkR As cs (a.shifts.take k) a.shifts[k] w' ((Zys hA.s k).up hw)
  rw [show (a.shifts.take k).length = k by rw [List.length_take]; omega] at hco
  rw [Zan hc, ZbC] at hi
  rw [htk] at hi
  generalize a.shifts[k] = x at *
  have hof := fun w' (hw : Bel w.heap.size w w') => ZeQ Ar Az Al As cr cz cl cs a x w' (hA.up hw) hn
  have hot := fun A3 c3 w' h => ZjA A3 c3 (ofB a.rules x) w' h
  have hle := fun A3 c3 w' h => ZcK A3 c3 (ofB a.rules x) w' h
  generalize ofB a.rules x = R at *
  generalize ZcT R = od at *
  obtain ⟨ox, ob⟩ := od
  dsimp only at hi hot
  by_cases hR : R = []
  ·rw [if_pos hR] at hi
   subst hi
   have hb : decide ((R.length : Int) = 0) = true := by rw [hR]; rfl
   simp only [ptV, plV, Zay.enc]
   repeat (first | (apply RL_pu; rfl; exact Zuw) | (refine js ?_; (first | (apply Zag (h := fun w' hw _ => hof w' hw); rfl; rintro v O' ⟨A3, c3, rfl, rfl⟩) | (refine ZaV (fun w' hw hO => hot A3 c3 w' (Zbj Zaa.len (hO.of (A := .row (.slice A3 R.length c3) 82 11 R.length (R.flatMap Zaa.enc)) (by repeat' constructor)))) ?_) | (refine bx ?_; intro bk))) | refine walk1 ?_)
   exact rtC
  rw [if_neg hR] at hi
  have hb : decide ((R.length : Int) = 0) = false := decide_eq_false (fun h => hR (List.eq_nil_of_length_eq_zero (by omega)))
  cases hm : memB x (a.shifts.take k) with
  | true =>
   rw [hm] at hi hco
   rw [if_pos rfl] at hi
   subst hi
   simp only [ptV, plV, Zay.enc]
   repeat (first | (apply RL_pu; rfl; exact ZoB) | (refine js ?_; (first | (apply Zag (h := fun w' hw _ => hof w' hw); rfl; rintro v O' ⟨A3, c3, rfl, rfl⟩) | (refine ZaV (fun w' hw hO => hot A3 c3 w' (Zbj Zaa.len (hO.of (A := .row (.slice A3 R.length c3) 82 11 R.length (R.flatMap Zaa.enc)) (by repeat' constructor)))) ?_) | (refine Zac hco ?_) | (refine bx ?_; intro bk))) | refine walk1 ?_)
   exact rtC
  | false =>
   rw [hm] at hi hco
   rw [if_neg (by decide)] at hi
   generalize Zah R = lt at *
   by_cases hl : lt = 0
   ·subst hl
    cases ob with
    | false =>
     rw [if_pos (.inr rfl)] at hi
     subst hi
     simp only [ptV, plV, Zay.enc]
     repeat (first | refine Zrw ?_ | (refine js ?_; (first | (apply Zag (h := fun w' hw _ => hof w' hw); rfl; rintro v O' ⟨A3, c3, rfl, rfl⟩) | (refine bx ?_; intro bk))))
     exact rtC
    | true =>
     rw [if_neg (by rintro (h | h); exact h rfl; cases h)] at hi
     repeat (first | refine Zrw ?_ | (refine js ?_; (first | (apply Zag (h := fun w' hw _ => hof w' hw); rfl; rintro v O' ⟨A3, c3, rfl, rfl⟩) | (refine bx ?_; intro bk))))
     exact ⟨k + 1, OA, ⟨OA, hi⟩, SFA, SOA⟩
   ·rw [if_pos (.inl hl)] at hi
    subst hi
    have hb2 : (!decide (lt = 0)) = true := by rw [decide_eq_false hl]; rfl
    simp only [ptV, plV, Zay.enc]
    repeat (first | (apply RL_pu; rfl; (first | exact ZoB | (apply ZaD; rfl; rfl; exact hb2))) | (refine js ?_; (first | (apply Zag (h := fun w' hw _ => hof w' hw); rfl; rintro v O' ⟨A3, c3, rfl, rfl⟩) | (refine ZaV (fun w' hw hO => hot A3 c3 w' (Zbj Zaa.len (hO.of (A := .row (.slice A3 R.length c3) 82 11 R.length (R.flatMap Zaa.enc)) (by repeat' constructor)))) ?_) | (refine Zac hco ?_) | (refine ZaV (fun w' hw hO => hle A3 c3 w' (Zbj Zaa.len (hO.of (A := .row (.slice A3 R.length c3) 82 11 R.length (R.flatMap Zaa.enc)) (by repeat' constructor)))) ?_) | (refine bx ?_; intro bk))) | refine walk1 ?_)
    exact rtC
 ·simp only [decide_eq_false_iff_not, Int.ofNat_lt] at hc
  rw [List.drop_eq_nil_of_le (by omega), ZbC] at hi
  subst hi
  repeat (first | (refine js ?_; (refine bx ?_; intro bk)) | refine walk ?_)
  exact rtC
theorem Zuv {G : Prop} (h : G := by (apply Zc3; rfl; rfl; exact b1)) : G := h
theorem ZjO (off save : Int) (ho : I64 off) (hs : I64 save) (w : World) : Does Tryz.prog 182 [.int .i64 off, .int .i64 save] w (fun v O => v = .bool (Zb7 off save) /\ O = []) := by
 have hsm := fun w' => ZiO off save ho hs w'
 refine Zab Tryz.func182 rfl rfl rfl rfl ?_
 cases hok : Zc7 (off + save) with
 | false =>
  rw [hok] at hsm
  have hb : Zb7 off save = false := by
   unfold Zb7
   by_cases h1 : -54000 <= off + save
   ·by_cases h2 : off + save <= 54000
    ·exfalso
     have : Zc7 (off + save) = true := by unfold Zc7; rw [decide_eq_true (by omega), decide_eq_true (by omega)]; rfl
     rw [this] at hok
     cases hok
    ·rw [decide_eq_false h2, Bool.and_false]
   ·rw [decide_eq_false h1, Bool.false_and]
  rw [hb]
  repeat (first | refine und ?_ | (refine js ?_; (refine Zac (fun w' hw => hsm w') ?_)) | refine walk ?_)
  exact rtA
 | true =>
  rw [hok, if_pos rfl] at hsm
  unfold Zb7
  generalize off + save = x at *
  by_cases h1 : -54000 <= x
  ·have b1 : decide (-54000 <= x) = true := decide_eq_true h1
   rw [b1]
   repeat (first | refine und ?_ | (apply RL_pu; rfl; exact Zuv) | (refine js ?_; (refine Zac (fun w' hw => hsm w') ?_)) | refine walk1 ?_)
   exact rtA
  ·have b1 : decide (-54000 <= x) = false := decide_eq_false h1
   rw [b1]
   repeat (first | refine und ?_ | (apply RL_pu; rfl; exact Zuv) | (refine js ?_; (refine Zac (fun w' hw => hsm w') ?_)) | refine walk1 ?_)
   exact rtA
theorem ZfX (Ar Az Al As : Option Addr) (cr cz cl cs : Nat) (a : Zai) (e : DEra) (w : World) (hA : Zat w Ar Az Al As cr cz cl cs a) (hn : a.rules.length <= 1000000) :
  Does Tryz.prog 183 [srcV Ar Az Al As cr cz cl cs a, .agg e.enc.toArray] w (Zrh 82 11 Zaa.enc (Za5 a.rules e)) := by
 have hof := fun w' (hw : Bel w.heap.size w w') => ZeQ Ar Az Al As cr cz cl cs a e.set w' (hA.up hw) hn
 unfold Za5
 obtain ⟨off, kind, save, set, format, til⟩ := e
 dsimp only at hof ⊢
 simp only [DEra.enc]
 refine Zab Tryz.func183 rfl rfl rfl rfl ?_
 by_cases hk : kind = 2
 ·subst hk
  rw [if_pos rfl]
  generalize ofB a.rules set = R at *
  repeat (first | (refine js ?_; (first | (apply Zag (h := fun w' hw _ => hof w' hw); rfl; rintro v O' ⟨A3, c3, rfl, rfl⟩) | (refine bx ?_; intro bk))) | refine walk ?_)
  exact ret_1 _ [.row (.slice A3 R.length c3) 82 11 R.length (R.flatMap Zaa.enc)] (.tmp rfl) SOA ⟨A3, c3, rfl, rfl⟩
 ·rw [if_neg hk]
  have hb : (!decide (kind = 2)) = true := by rw [decide_eq_false hk]; rfl
  refine Zfc 82 11 ?_
  repeat (first | (apply RL_pu; rfl; (apply ZaD; rfl; rfl; exact hb)) | (refine js ?_; (refine bx ?_; intro bk)) | refine walk1 ?_)
  exact ret_1 _ [.row (.slice none 0 0) 82 11 0 []] (.tmp rfl) SOA ⟨none, 0, rfl, rfl⟩
def Zb4 (x : Int × ByteArray) : List Value := [.int .i64 x.1, .string x.2]
theorem Zb4.len (x : Int × ByteArray) : (Zb4 x).length = 2 := rfl
structure StG where
 k : Nat
 A : Option Addr
 c : Nat
 m : Nat
 ys : List Value
def StR (l : List (Int × ByteArray)) (v : Value) (O : List It) : Prop := Zrh 151 2 Zb4 l v O \/ ∃ b x, l = [x] /\ v = .slice (some ⟨b, 0, none⟩) 1 1 /\ O = [.blk b (Zb4 x) 151]
theorem Zuu {G : Prop} (h : G := by (apply ZaC; rfl; rfl; exact b1)) : G := h
theorem Zlv (Ar Az Al As : Option Addr) (cr cz cl cs : Nat) (a : Zai) (e : DEra) (w : World) (hA : Zat w Ar Az Al As cr cz cl cs a) (hn : a.rules.length <= 1000000) :
  Does Tryz.prog 185 [srcV Ar Az Al As cr cz cl cs a, .agg e.enc.toArray] w (StR (ZaN a.rules e)) := by
 have hst := fun w' (hw : Bel w.heap.size w w') => ZfX Ar Az Al As cr cz cl cs a e w' (hA.up hw) hn
 have hRl : (Za5 a.rules e).length <= 1000000 := by
  unfold Za5
  split
  ·exact Nat.le_trans (Znw _ _) hn
  ·exact Nat.zero_le _
 unfold ZaN
 generalize Za5 a.rules e = R at *
 obtain ⟨off, kind, save, set, format, til⟩ := e
 dsimp only at hst ⊢
 simp only [DEra.enc] at hst ⊢
 refine Zab Tryz.func185 rfl rfl rfl rfl ?_
 by_cases hk1 : kind = 1
 ·subst hk1
  rw [if_pos rfl]
  repeat (first | (refine js ?_; (refine bx ?_; intro bk)) | refine walk ?_)
  exact ret_1 _ [.blk bk [.int .i64 save, .string ByteArray.empty] 151] (.tmp rfl) SOA (.inr ⟨bk, (save, ByteArray.empty), rfl, rfl, rfl⟩)
 have b1 : decide (kind = 1) = false := decide_eq_false hk1
 rw [if_neg hk1]
 by_cases hk2 : kind = 2
 ·subst hk2
  rw [if_pos rfl]
  repeat (first | (apply RL_pu; rfl; exact Zuu) | (refine js ?_; (first | (apply Zag (h := fun w' hw _ => hst w' hw); rfl; rintro v O' ⟨A3, c3, rfl, rfl⟩) | (refine bx ?_; intro bk))) | refine walk1 ?_)
  refine Zfc 151 2 ?_
  refine Zao [(20, .slice A3 R.length c3), (21, .int .i64 R.length)] [.row (.slice A3 R.length c3) 82 11 R.length (R.flatMap Zaa.enc)] (fun g : StG => [(5, .slice g.A g.m g.c), (22, .int .i64 g.k)]) (fun g => [.row (.slice g.A g.m g.c) 151 2 g.m g.ys])
   (fun g => g.k <= R.length /\ g.m = g.k /\ g.ys = ((R.take g.k).map fun r => (r.save, r.letter)).flatMap Zb4) (fun g => R.length - g.k) ⟨0, none, 0, 0, []⟩ SFA SOA ⟨Nat.zero_le _, rfl, rfl⟩ ?_
  rintro ⟨k, A1, c1, m, ys⟩ ⟨hkl, hm, hy⟩
  dsimp only at hkl hm hy ⊢
  repeat (first | (refine js ?_; (refine bx ?_; intro bk)) | refine walk ?_)
  refine Zaf rfl (fun hc => ?_) (fun hc => ?_)
  ·simp only [decide_eq_true_eq, Int.ofNat_lt] at hc
   have hg1 := ZaB Zaa.len R k _ 0 _ (List.getElem?_eq_getElem hc) rfl
   have hgn : ∀ j v, (Zaa.enc R[k])[j]? = some v -> (R.flatMap Zaa.enc)[k * 11 + j]? = some v := fun j v hj => ZaB Zaa.len R k _ j v (List.getElem?_eq_getElem hc) hj
   have htk := List.take_append_getElem hc
   generalize R[k] = r at *
   simp only [Zaa.enc] at hgn hg1
   repeat (first | (apply RL_pu; rfl; (first | (apply ZaF; rfl; rfl; omega; omega; (intro w' _ hO; exact (ZaU (hO.of (A := .row (.slice A3 R.length c3) 82 11 R.length (R.flatMap Zaa.enc)) (by repeat' constructor)) hg1).1)) | (apply Za3; rfl; (focus repeat' constructor); exact hgn; rfl))) | (refine js ?_; (first | (apply ZaA; rfl; rfl; (intro A' c'; (focus repeat' constructor)); (intro w' _ hO; exact ZbG (hO.of (by repeat' constructor))); rfl; rfl; (simp only [maxLen]; omega); omega; intro A' c' hc1 hc2 hc3) | (refine bx ?_; intro bk))) | refine walk1 ?_)
   exact ⟨⟨k + 1, A', c', m + 1, ys ++ [.int .i64 r.save, .string r.letter]⟩, OA, ⟨OA, OA, by dsimp only; rw [hy, <- htk]; simp [Zb4]⟩, SFA, SOA⟩
  ·obtain rfl : k = R.length := by simp only [decide_eq_false_iff_not, Int.ofNat_lt] at hc; omega
   rw [List.take_length] at hy
   subst hm hy
   repeat (first | (refine js ?_; (refine bx ?_; intro bk)) | refine walk ?_)
   exact ret_1 _ [.row (.slice A1 R.length c1) 151 2 R.length ((R.map fun r => (r.save, r.letter)).flatMap Zb4)] (.tmp rfl) SOA (.inl ⟨A1, c1, by rw [List.length_map], by rw [List.length_map]⟩)
 have b2 : decide (kind = 2) = false := decide_eq_false hk2
 rw [if_neg hk2]
 repeat (first | (apply RL_pu; rfl; (first | exact Zuu | (apply ZaC; rfl; rfl; exact b2))) | (refine js ?_; (refine bx ?_; intro bk)) | refine walk1 ?_)
 exact ret_1 _ [.blk bk [.int .i64 0, .string ByteArray.empty] 151] (.tmp rfl) SOA (.inr ⟨bk, (0, ByteArray.empty), rfl, rfl, rfl⟩)
theorem ZhN (Ar Az Al As : Option Addr) (cr cz cl cs : Nat) (a : Zai) (e : DEra) (w : World) (hA : Zat w Ar Az Al As cr cz cl cs a) (hn : a.rules.length <= 1000000) :
  Does Tryz.prog 185 [srcV Ar Az Al As cr cz cl cs a, .agg e.enc.toArray] w (Zrh 151 2 Zb4 (ZaN a.rules e)) :=
 (Zlv Ar Az Al As cr cz cl cs a e w hA hn).monoH fun v O base w' hR hH => by
  rcases hR with h | ⟨b, x, hl, rfl, rfl⟩
  ·exact ⟨O, h, hH⟩
  ·rw [hl]
   exact ⟨_, ⟨some ⟨b, 0, none⟩, 1, rfl, rfl⟩, hH.toRow (m := 1) 2 rfl (by decide) (by simpa using Upd.here)⟩
end Go.Proofs.YtdlmhmmhdbbliaaGreatDoor
