/- Parts of the proof. -/
import Derived.Test.YtpcpmndldgejiaaGreatDoorW26
import Derived.Test.YtpcpmndldgejiaaGreatDoorW27
import Derived.Test.YtpcpmndldgejiaaGreatDoorW28
import Derived.Test.YtpcpmndldgejiaaGreatDoorW25
import Derived.Test.YtpcpmndldgejiaaGreatDoorW18
import Derived.Test.YtpcpmndldgejiaaGreatDoorW04
import Derived.LaidHandle
import Derived.LaidLaws
import Derived.LaidSub
import Derived.Stop.Joined
import Derived.LaidMore
import Derived.OpenShut
import Derived.ChangeArms
import Derived.Handed
set_option maxHeartbeats 4000000
set_option linter.unusedVariables false
set_option linter.unusedSimpArgs false
namespace Go.Proofs.YtpcpmndldgejiaaGreatDoor
open Go Go.RowKit Go.Wk
instance : EqE Tryz.prog 45 (Int × Nat) Zbs where
 h r s w := by
  unfold Zbs
  simp [go_sem]
  rcases r with ⟨_, _⟩
  rcases s with ⟨_, _⟩
  simp only [Zqk, Result.ok.injEq, and_true]
  rw [Bool.eq_iff_iff]
  simp
  omega
 g := by kernel_rfl
attribute [local irreducible] W RL Does Zay Zam retQ Calls Pu Stp RD Qy Ay Zan
theorem Zdx {G G' : Prop} (k : G') (h : Hold G' -> G := by intro k9; (first | refine walk ?_ | (refine jn ?_; (try intro F); (apply Zae; exact PuA); refine fin ?_)); exact k9.out) : G := h ⟨k⟩
theorem Ze6 (A B : Option Addr) (ca cb : Nat) (x y : List Zaf) (w : World) (hA : RdSl w A ca Zaf.enc 3 x) (hB : RdSl w B cb Zaf.enc 3 y) :
  Does Tryz.prog 17 [.slice A x.length ca, .slice B y.length cb] w (fun v O => v = .bool (decide (x = y)) /\ O = []) := by
 have hs1 := hA.le
 have hs2 := hA.cap
 unfold maxLen at hs2
 generalize hres : decide (x = y) = res
 refine Zab Tryz.func17 rfl rfl rfl rfl ?_
 repeat refine Zdx ?_
 refine Zah rfl (fun h1 => ?_) (fun h1 => ?_)
 ·repeat refine Zdx ?_
  exact ret_1 _ [] (.tmp rfl) .nil ⟨by rw [<- hres, Zt7]; simp at h1; omega, rfl⟩
 have hlen : x.length = y.length := by simp at h1; omega
 clear h1
 repeat refine Zdx ?_
 refine Zaq [(0, _), (1, _), (4, _), (12, _)] _ (fun k : Nat => [(13, .int .i64 k)]) (fun _ => []) (fun k => k <= x.length /\ decide (x.drop k = y.drop k) = res) (fun k => x.length - k) 0 ⟨rfl, rfl, rfl, rfl, rfl, trivial⟩ (.refl _) ⟨by omega, hres⟩ ?_
 rintro k ⟨hk, hi⟩
 repeat refine Zdx ?_
 refine Zah rfl (fun hc => ?_) (fun hc => ?_)
 ·simp only [decide_eq_true_eq, Int.ofNat_lt] at hc
  have hcy : k < y.length := by omega
  obtain ⟨hna, hca⟩ := hA.rd k _ (List.getElem?_eq_getElem hc)
  obtain ⟨hnb, hcb⟩ := hB.rd k _ (List.getElem?_eq_getElem hcy)
  rw [Zat hc, Zat hcy, ZqG] at hi
  generalize x[k] = p at *
  generalize y[k] = q at *
  repeat (first | (apply RL_pu; rfl; exact PuI) | (apply RD_Q; rfl; rfl; decide +kernel; rfl; rfl; exact QyI) | refine walk1 ?_ | (refine jn ?_; (try intro F); (apply Zae; first | exact PuI | exact PuA); first | refine ⟨_, EndsA, QFI, ?_⟩ | refine fin ?_))
  refine Zah rfl (fun h3 => ?_) (fun h3 => ?_)
  ·repeat refine Zdx ?_
   exact ret_1 _ [] (.tmp rfl) .nil ⟨by simp at h3; simp [<- hi, h3], rfl⟩
  repeat refine Zdx ?_
  simp at h3
  exact ⟨k + 1, by omega, ⟨by omega, by rw [<- hi]; simp [h3]⟩, SFA, SOA⟩
 simp only [decide_eq_false_iff_not, Int.ofNat_lt] at hc
 repeat refine Zdx ?_
 exact ret_1 _ [] (.tmp rfl) .nil ⟨by rw [<- hi, Zt6 (by omega) (by omega)], rfl⟩
theorem ZhU (A B : Option Addr) (ca cb : Nat) (x y : List (Int × Nat)) (w : World) (hA : RdSl w A ca Zbs 2 x) (hB : RdSl w B cb Zbs 2 y) :
  Does Tryz.prog 16 [.slice A x.length ca, .slice B y.length cb] w (fun v O => v = .bool (decide (x = y)) /\ O = []) := by
 have hs1 := hA.le
 have hs2 := hA.cap
 unfold maxLen at hs2
 generalize hres : decide (x = y) = res
 refine Zab Tryz.func16 rfl rfl rfl rfl ?_
 repeat refine Zdx ?_
 refine Zah rfl (fun h1 => ?_) (fun h1 => ?_)
 ·repeat refine Zdx ?_
  exact ret_1 _ [] (.tmp rfl) .nil ⟨by rw [<- hres, Zt7]; simp at h1; omega, rfl⟩
 have hlen : x.length = y.length := by simp at h1; omega
 clear h1
 repeat refine Zdx ?_
 refine Zaq [(0, _), (1, _), (4, _), (12, _)] _ (fun k : Nat => [(13, .int .i64 k)]) (fun _ => []) (fun k => k <= x.length /\ decide (x.drop k = y.drop k) = res) (fun k => x.length - k) 0 ⟨rfl, rfl, rfl, rfl, rfl, trivial⟩ (.refl _) ⟨by omega, hres⟩ ?_
 rintro k ⟨hk, hi⟩
 repeat refine Zdx ?_
 refine Zah rfl (fun hc => ?_) (fun hc => ?_)
 ·simp only [decide_eq_true_eq, Int.ofNat_lt] at hc
  have hcy : k < y.length := by omega
  obtain ⟨hna, hca⟩ := hA.rd k _ (List.getElem?_eq_getElem hc)
  obtain ⟨hnb, hcb⟩ := hB.rd k _ (List.getElem?_eq_getElem hcy)
  rw [Zat hc, Zat hcy, ZqG] at hi
  generalize x[k] = p at *
  generalize y[k] = q at *
  repeat (first | (apply RL_pu; rfl; exact PuI) | (apply RD_Q; rfl; rfl; decide +kernel; rfl; rfl; exact QyI) | refine walk1 ?_ | (refine jn ?_; (try intro F); (apply Zae; first | exact PuI | exact PuA); first | refine ⟨_, EndsA, QFI, ?_⟩ | refine fin ?_))
  refine Zah rfl (fun h3 => ?_) (fun h3 => ?_)
  ·repeat refine Zdx ?_
   exact ret_1 _ [] (.tmp rfl) .nil ⟨by simp at h3; simp [<- hi, h3], rfl⟩
  repeat refine Zdx ?_
  simp at h3
  exact ⟨k + 1, by omega, ⟨by omega, by rw [<- hi]; simp [h3]⟩, SFA, SOA⟩
 simp only [decide_eq_false_iff_not, Int.ofNat_lt] at hc
 repeat refine Zdx ?_
 exact ret_1 _ [] (.tmp rfl) .nil ⟨by rw [<- hi, Zt6 (by omega) (by omega)], rfl⟩
theorem Zn9 {G : Prop} (h : G := by (first | exact PuI | (apply Zmb (i := (⟨x1, x2, x3⟩ : Zaf)) (j := ⟨p1, p2, p3⟩) (enc := Zaf.enc); rfl; rfl; exact n0))) : G := h
theorem Zxq {G : Prop} (h : G := by first | (apply Qy_y; rfl; exact Zn9) | exact QyA) : G := h
theorem Zni (A : Option Addr) (c : Nat) (l : List Zaf) (x : Zaf) (w : World) (hA : RdSl w A c Zaf.enc 3 l) :
  Does Tryz.prog 11 [.slice A l.length c, .agg x.enc.toArray] w (fun v O => v = .int .i64 (ZbJ (fun y => decide (x = y)) l 0) /\ O = []) := by
 have hs1 := hA.le
 have hs2 := hA.cap
 unfold maxLen at hs2
 generalize hres : ZbJ (fun y => decide (x = y)) l 0 = res
 obtain ⟨x1, x2, x3⟩ := x
 simp only [Zaf.enc]
 refine Zab Tryz.func11 rfl rfl rfl rfl ?_
 repeat (first | refine walk ?_ | (refine jn ?_; (try intro F); (first | (refine bx ?_; intro bk) | (apply Zae; exact PuA)); refine fin ?_))
 generalize bk = b3
 refine Zaq [(0, .slice A l.length c), (3, .pointer (some ⟨b3, 0, none⟩)), (4, .int .i64 0), (7, .int .i64 l.length)] [.blk b3 [.int .i64 x1, .bool x2, .string x3] 47] (fun k : Nat => [(8, .int .i64 k)]) (fun _ => []) (fun k => k <= l.length /\ ZbJ (fun y => decide ((⟨x1, x2, x3⟩ : Zaf) = y)) (l.drop k) k = res) (fun k => l.length - k) 0 SFA SOA ⟨by omega, by simpa using hres⟩ ?_
 rintro k ⟨hk, hi⟩
 repeat (first | refine walk ?_ | (refine jn ?_; (try intro F); (first | (refine bx ?_; intro bk) | (apply Zae; exact PuA)); refine fin ?_))
 refine Zah rfl (fun hc => ?_) (fun hc => ?_)
 ·simp only [decide_eq_true_eq, Int.ofNat_lt] at hc
  obtain ⟨hna, hca⟩ := hA.rd k _ (List.getElem?_eq_getElem hc)
  have hnb := hna
  rw [Zat hc, ZbJ] at hi
  generalize l[k] = p at *
  obtain ⟨p1, p2, p3⟩ := p
  simp only [Zaf.enc] at hca
  by_cases h3 : (⟨x1, x2, x3⟩ : Zaf) = ⟨p1, p2, p3⟩
  ·have n0 : decide ((⟨x1, x2, x3⟩ : Zaf) = ⟨p1, p2, p3⟩) = true := decide_eq_true h3
   rw [if_pos n0] at hi
   repeat (first | (apply RL_pu; rfl; exact Zn9) | (apply RD_Q; rfl; rfl; decide +kernel; rfl; rfl; exact Zxq) | refine walk1 ?_ | (refine jn ?_; (try intro F); (first | (refine bx ?_; intro bk) | (apply Zae; first | exact Zn9 | exact PuA)); first | refine ⟨_, EndsA, QFWaQ0, ?_⟩ | refine fin ?_))
   exact ret_1 _ [] (.tmp rfl) .nil ⟨by rw [<- hi], rfl⟩
  ·have n0 : decide ((⟨x1, x2, x3⟩ : Zaf) = ⟨p1, p2, p3⟩) = false := decide_eq_false h3
   rw [n0] at hi
   repeat (first | (apply RL_pu; rfl; exact Zn9) | (apply RD_Q; rfl; rfl; decide +kernel; rfl; rfl; exact Zxq) | refine walk1 ?_ | (refine jn ?_; (try intro F); (first | (refine bx ?_; intro bk) | (apply Zae; first | exact Zn9 | exact PuA)); first | refine ⟨_, EndsA, QFWaQ0, ?_⟩ | refine fin ?_))
   exact ⟨k + 1, by omega, ⟨by omega, hi⟩, SFA, SOA⟩
 simp only [decide_eq_false_iff_not, Int.ofNat_lt] at hc
 repeat (first | refine walk ?_ | (refine jn ?_; (try intro F); (first | (refine bx ?_; intro bk) | (apply Zae; exact PuA)); refine fin ?_))
 exact ret_1 _ [] (.tmp rfl) .nil ⟨by rw [<- hi, List.drop_eq_nil_of_le (by omega)]; rfl, rfl⟩
theorem Zjh : ∀ (l : List Zaf) (k i : Nat) (x : Zaf), l.Nodup -> l[i]? = some x -> ZbJ (fun y => decide (x = y)) l k = ((k + i : Nat) : Int)
 | [], _, _, _, _, h => by simp at h
 | y :: l, k, 0, x, _, h => by
  simp only [List.getElem?_cons_zero, Option.some.injEq] at h
  subst h
  rw [ZbJ, if_pos (decide_eq_true rfl)]
  rfl
 | y :: l, k, i + 1, x, hn, h => by
  simp only [List.getElem?_cons_succ] at h
  obtain ⟨h1, h2⟩ := List.nodup_cons.1 hn
  have hne : x ≠ y := fun hh => h1 (hh ▸ List.mem_of_getElem? h)
  rw [ZbJ, if_neg (by simp [hne]), Zjh l (k + 1) i x h2 h]
  congr 1
  omega
attribute [local irreducible] RLI WI Pre
def z27 : List DEra := [x27e, x27f]
theorem ZwA : accD ex27 = none := by decide +kernel
theorem Znu : ZbI ex27 ⟨#[90]⟩ = (((0 : Nat) : Int), 0) := by decide +kernel
theorem ZtY : (ZbI ex27 ⟨#[88]⟩).2 = 9 := by decide +kernel
theorem Zy2 : (ZfB ex27.rules z27).isSome = true := by decide +kernel
theorem Zxj : Za0 x27e.til (Go.Wk.bsE x27e []) = 0 /\ Zj5 (endB x27e []) = true := by decide +kernel
def ExSt (e : DEra) (x : Int × ByteArray) : Prop := ((-1000000000 <= x.1 /\ x.1 <= 1000000000) /\ x.2.size <= 1000000000) /\ abE e x = 0
theorem ZtX : ExSt x27e (0, ByteArray.empty) /\ ExSt x27f (0, ByteArray.empty) /\ ∀ r ∈ ofB ex27.rules x27f.set, ExSt x27f (r.save, r.letter) := by
 unfold ExSt
 decide +kernel
theorem ZqD : (∀ r ∈ ofB ex27.rules x27f.set, (-1000000000 <= r.save /\ r.save <= 1000000000) /\ r.from_ <= 4611686018427387904 /\ -4611686018427387904 <= r.to) /\ (ofB ex27.rules x27f.set).length <= 1000000 := by decide +kernel
theorem Zo6 : MnOk ex27 := by
 have hz : ∀ z ∈ ex27.zones, z.eras = z27 := fun z hz => by rw [List.mem_singleton.1 hz]; rfl
 have he : ∀ e ∈ z27, e = x27e \/ e = x27f := fun e he => by simpa [z27] using he
 refine ⟨ZwA, fun z hz1 k e hk hl => ?_, fun z hz1 => by rw [hz z hz1]; decide, fun z hz1 => ?_, fun z hz1 e he1 => ?_, fun z hz1 e he1 t => ?_⟩
 ·rw [hz z hz1] at hk hl
  have hk0 : k = 0 := by simp only [z27, List.length_cons, List.length_nil] at hl; omega
  subst hk0
  simp only [z27, List.getElem?_cons_zero, Option.some.injEq] at hk
  subst hk
  exact ⟨⟨by decide, (fun r hr => by cases hr), (fun r hr => by cases hr), (fun r hr => by cases hr)⟩, by decide, by decide, by decide, Zxj.1, Zxj.2⟩
 ·rw [hz z hz1]
  exact Option.isSome_iff_exists.1 Zy2
 ·rw [hz z hz1] at he1
  rcases he e he1 with rfl | rfl
  ·exact ⟨by decide, by decide, by decide, (fun h => by cases h), by decide⟩
  ·exact ⟨by decide, by decide, by decide, fun _ => ⟨ZqD.2, fun r hr => (ZqD.1 r hr).1, fun r hr => (ZqD.1 r hr).2.1, fun r hr => (ZqD.1 r hr).2.2⟩, by decide⟩
 ·rw [hz z hz1] at he1
  have hs : ExSt e (ZaZ ex27.rules e t) := by
   rcases he e he1 with rfl | rfl
   ·exact Zlq (P := ExSt x27e) ZtX.1 (fun h => by cases h) (fun h => absurd rfl h) t
   ·exact Zlq (P := ExSt x27f) ZtX.2.1 (fun h => by cases h) (fun _ _ => ZtX.2.2) t
  exact ⟨hs.1.1, hs.1.2, hs.2⟩
def w27 : List (Int × Int) := [(0, 57715200 + 7200), (57715200 + 7200, 69811200 + 7200), (57715200 + 7200 - 1, 57715200 + 7200), (-36028797018963968, -37238400)]
def ZmO (x : Int × Int) : List Value := [.int .i64 x.1, .int .i64 x.2]
theorem ZmO.len (x : Int × Int) : (ZmO x).length = 2 := rfl
theorem ZzI : ∀ x ∈ w27, tOk x.1 = true /\ nxD ex27.rules z27 x.1 = some x.2 /\ (evtD (ruEr ex27.rules (eAt ex27.rules z27 x.1)) (eAt ex27.rules z27 x.1).off x.1).isSome = true := by decide +kernel
def g27 : List Int := [-36028797018963968, -37238400, 57722400, 69818400, 89168400]
theorem ZtO : ∀ t ∈ g27, (-1000000000000000000 <= t /\ t <= 1000000000000000000) /\ ((evtD (ruEr ex27.rules (eAt ex27.rules z27 t)) (eAt ex27.rules z27 t).off t).any fun o => o.all fun u => decide (t < u)) = true /\ ((nxD ex27.rules z27 t).all fun u => decide (94694400 < u) || decide (u ∈ g27)) = true := by decide +kernel
def o27 : List (Int × Nat) := [(-37238400, 1), (57722400, 2), (69818400, 1), (89168400, 2)]
def t27 : List Zaf := [⟨0, false, x27G⟩, ⟨3600, false, x27I⟩, ⟨0, true, x27G⟩]
theorem Zwz : allD ex27.rules z27 (-36028797018963968) 94694400 = some (o27, t27) := by decide +kernel
def y27 : List (Int × Nat) := [(-37238400, 1), (57715200 + 7200, 2), (69811200 + 7200, 1), (89164800 + 3600, 2)]
theorem Zbs.len (x : Int × Nat) : (Zbs x).length = 2 := rfl
theorem Zaf.len (x : Zaf) : (Zaf.enc x).length = 3 := rfl
theorem ZAS (A : Option Addr) (b c : Nat) (w : World) (hA : RdSl w A c Zbs 2 o27) (hB : RdSl w (some ⟨b, 0, none⟩) 4 Zbs 2 y27) : Does Tryz.prog 16 [.slice A o27.length c, .slice (some ⟨b, 0, none⟩) 4 4] w (fun v O => v = .bool true /\ O = []) := by
 have := ZhU A (some ⟨b, 0, none⟩) c 4 o27 y27 w hA hB
 rwa [show decide (o27 = y27) = true by decide] at this
theorem ZAT (A : Option Addr) (b c : Nat) (w : World) (hA : RdSl w A c Zaf.enc 3 t27) (hB : RdSl w (some ⟨b, 0, none⟩) 3 Zaf.enc 3 t27) : Does Tryz.prog 17 [.slice A t27.length c, .slice (some ⟨b, 0, none⟩) 3 3] w (fun v O => v = .bool true /\ O = []) := by
 have := Ze6 A (some ⟨b, 0, none⟩) c 3 t27 t27 w hA hB
 rwa [show decide (t27 = t27) = true from decide_eq_true rfl] at this
section
variable (br bz bl : Nat) (w : World) (hL : LibW w) (hG : Glob w) (hA : Zaj w (some ⟨br, 0, none⟩) (some ⟨bz, 0, none⟩) (some ⟨bl, 0, none⟩) none 3 1 1 0 ex27)
include hL hG hA
theorem Zt1 : ZcO w (some ⟨br, 0, none⟩) (some ⟨bz, 0, none⟩) (some ⟨bl, 0, none⟩) none 3 1 1 0 ex27 := ZAW hL hG (Bel.refl _ w) (show okD ex27 = true by decide +kernel) hA
theorem ZtZ (x : Int × Int) (hx : x ∈ w27) : Does Tryz.prog 14 [srcV (some ⟨br, 0, none⟩) (some ⟨bz, 0, none⟩) (some ⟨bl, 0, none⟩) none 3 1 1 0 ex27, .string ⟨#[90]⟩, .int .i64 x.1] w (fun v O => v = .tuple #[.int .i64 x.2, .bool true, .int .i64 0] /\ O = []) := by
 obtain ⟨h1, h2, h3⟩ := ZzI x hx
 obtain ⟨o, ho⟩ := Option.isSome_iff_exists.1 h3
 have := ZmP (some ⟨br, 0, none⟩) (some ⟨bz, 0, none⟩) (some ⟨bl, 0, none⟩) none 3 1 1 0 ex27 ⟨#[90]⟩ x.1 0 ⟨⟨#[90]⟩, z27⟩ o w (Zt1 br bz bl w hL hG hA) (by decide) Zo6 h1 Znu rfl (Zo6.wk List.mem_cons_self) ho
 dsimp only at this
 rw [h2] at this
 exact this
theorem ZrX : Does Tryz.prog 14 [srcV (some ⟨br, 0, none⟩) (some ⟨bz, 0, none⟩) (some ⟨bl, 0, none⟩) none 3 1 1 0 ex27, .string ⟨#[88]⟩, .int .i64 0] w (fun v O => v = .tuple #[.int .i64 0, .bool false, .int .i64 9] /\ O = []) := by
 have := ZiO (some ⟨br, 0, none⟩) (some ⟨bz, 0, none⟩) (some ⟨bl, 0, none⟩) none 3 1 1 0 ex27 ⟨#[88]⟩ 0 w (Zt1 br bz bl w hL hG hA) (by decide) (by decide) (by rw [ZtY]; decide)
 rwa [ZtY] at this
theorem Zt0 : Does Tryz.prog 10 [srcV (some ⟨br, 0, none⟩) (some ⟨bz, 0, none⟩) (some ⟨bl, 0, none⟩) none 3 1 1 0 ex27, .string ⟨#[90]⟩, .int .i64 (-36028797018963968), .int .i64 94694400] w (alO o27 t27) := by
 refine Zuv (some ⟨br, 0, none⟩) (some ⟨bz, 0, none⟩) (some ⟨bl, 0, none⟩) none 3 1 1 0 ex27 ⟨#[90]⟩ w (Zt1 br bz bl w hL hG hA) (by decide) Zo6 (i := 0) (z := ⟨⟨#[90]⟩, z27⟩) Znu rfl (-36028797018963968) 94694400 (fun t => t ∈ g27) (by decide) (fun t u hg _ hu hub => ?_) (fun t hg => (ZtO t hg).1) (fun t hg => ?_) (by decide) (by decide) Zwz
 ·have h := (ZtO t hg).2.2
  rw [show nxD ex27.rules z27 t = some u from hu, Option.all_some, Bool.or_eq_true, decide_eq_true_eq, decide_eq_true_eq] at h
  rcases h with h | h
  ·omega
  ·exact h
 ·have h := (ZtO t hg).2.1
  cases he : evtD (ruEr ex27.rules (eAt ex27.rules z27 t)) (eAt ex27.rules z27 t).off t with
  | none => rw [he] at h; cases h
  | some o =>
   rw [he] at h
   refine ⟨o, rfl, fun u hu => ?_⟩
   subst hu
   simpa using h
end
theorem Zx4 {G : Prop} (h : G := by (apply Zgl; rfl; rfl; (focus repeat (first | exact Nf.nil | apply Nf.cons)))) : G := h
theorem Zx3 {G : Prop} (h : G := by (first | (apply Pu_indexAddr; rfl; rfl; omega; omega; simp) | (apply Zbv; rfl; rfl; decide; decide) | (apply Zfz (cs := [.int .i64 x1, .int .i64 x2]); rfl; rfl; (intro w' _ hO; exact ((Zh7 (c := 4) (l := w27) (enc := ZmO) (t := 101) ZmO.len (Nat.le_refl 4) (by decide) (hO.of (A := .blk bq _ _) (by repeat' constructor))).rd i _ hx).2)) | (apply ZaE; rfl; rfl; first | exact e3 | exact e1))) : G := h
theorem Zx2 {G : Prop} (h : G := by (apply ZaG; rfl; rfl; exact decide_eq_true rfl)) : G := h
set_option maxHeartbeats 4000000 in
set_option maxRecDepth 20000 in
theorem Zdw (w : World) (hL : LibW w) (hG : Glob w) : Does Tryz.prog 12 [] w (fun v O => v = .bool true /\ O = []) := by
 have d1 := fun w' (hw : Bel w.heap.size w w') => Zc2 1968 10 27 (-431) (-37238400) w' (hG.up hw) (by decide +kernel) (by decide +kernel) rfl (by decide)
 have d2 := fun w' (hw : Bel w.heap.size w w') => Zc2 1971 10 31 668 57715200 w' (hG.up hw) (by decide +kernel) (by decide +kernel) rfl (by decide)
 have d3 := fun w' (hw : Bel w.heap.size w w') => Zc2 1972 3 19 808 69811200 w' (hG.up hw) (by decide +kernel) (by decide +kernel) rfl (by decide)
 have d4 := fun w' (hw : Bel w.heap.size w w') => Zc2 1972 10 29 1032 89164800 w' (hG.up hw) (by decide +kernel) (by decide +kernel) rfl (by decide)
 have d5 := fun w' (hw : Bel w.heap.size w w') => Zc2 1973 1 1 1096 94694400 w' (hG.up hw) (by decide +kernel) (by decide +kernel) rfl (by decide)
 have e3 : (!decide ((0 : Int) = 0)) = false := rfl
 have hnx := fun (br bz bl : Nat) w' (hw : Bel w.heap.size w w') hA => ZtZ br bz bl w' (hL.up hw) (hG.up hw) hA
 refine Zab Tryz.func12 rfl rfl rfl rfl ?_
 repeat (first | (apply RL_pu; rfl; exact Zx4) | (apply RD_Q; rfl; rfl; decide +kernel; rfl; rfl; exact QyWaI0) | refine walk1 ?_ | (refine jg ?_; (try intro F); (first | (apply Zag (h := fun w' _ _ => Zj7 w'); rfl; rintro v O' ⟨br, bz, bl, S, rfl, rfl⟩) | (refine Zac d1 ?_) | (refine Zac d2 ?_) | (refine Zac d3 ?_) | (refine Zac d4 ?_) | (refine Zac d5 ?_) | (refine bx ?_; intro bk) | (refine stA ?_)); first | refine ⟨_, EndsA, QFWaI0, ?_⟩ | refine fin ?_) | (refine jn ?_; (try intro F); (first | (refine bx ?_; intro bk) | (refine stA ?_) | (apply Zae; first | exact Zx4 | exact PuA)); first | refine ⟨_, EndsA, QFWaI0, ?_⟩ | refine fin ?_) | (apply RD_W; rfl; intro bk))
 generalize bk = bq
 rename_i b1
 refine Zaq [(1, .pointer (some ⟨b1, 0, none⟩)), (2, .int .i64 (-37238400)), (3, .int .i64 (57715200 + 7200)), (4, .int .i64 (69811200 + 7200)), (5, .int .i64 (89164800 + 3600)), (39, .slice (some ⟨bq, 0, none⟩) 4 4), (40, .int .i64 4)] [.blk b1 [.slice (some ⟨br, 0, none⟩) 3 3, .slice (some ⟨bz, 0, none⟩) 1 1, .slice (some ⟨bl, 0, none⟩) 1 1, .slice none 0 0] 34, .blk bq (w27.flatMap ZmO) 101, .fact S (fun w => Zaj w (some ⟨br, 0, none⟩) (some ⟨bz, 0, none⟩) (some ⟨bl, 0, none⟩) none 3 1 1 0 ex27)]
  (fun i : Nat => [(41, .int .i64 i)]) (fun _ => []) (fun i => i <= 4) (fun i => 4 - i) 0 SFA SOA (Nat.zero_le 4) ?_
 intro i hi
 repeat (first | refine walk ?_ | (refine jn ?_; (try intro F); (first | (refine bx ?_; intro bk) | (refine stA ?_) | (apply Zae; exact PuA)); refine fin ?_) | (apply RD_W; rfl; intro bk))
 refine Zah rfl (fun hc => ?_) (fun hc => ?_)
 ·have hi4 : i < 4 := by
   have := of_decide_eq_true hc
   omega
  obtain ⟨x, hx⟩ : ∃ x, w27[i]? = some x := ⟨_, List.getElem?_eq_getElem hi4⟩
  have hmem := List.mem_of_getElem? hx
  have hn1 := fun w' hw hA => hnx br bz bl w' hw hA x hmem
  clear hmem
  obtain ⟨x1, x2⟩ := x
  dsimp only at hn1
  have e1 : (!decide (x2 = x2)) = false := by rw [decide_eq_true rfl]; rfl
  repeat (first | refine und ?_ | (apply RL_pu; rfl; exact Zx3) | (apply RD_Q; rfl; rfl; decide +kernel; rfl; rfl; exact QyWaI1) | refine walk1 ?_ | (refine jg ?_; (try intro F); (first | (refine ZaF (fun w' hw hO => hn1 w' hw (ZaA (hO.of (A := .fact S _) (by repeat' constructor)))) ?_) | (refine bx ?_; intro bk) | (refine stA ?_)); first | refine ⟨_, EndsA, QFWaI1, ?_⟩ | refine fin ?_) | (refine jn ?_; (try intro F); (first | (refine bx ?_; intro bk) | (refine stA ?_) | (apply Zae; first | exact Zx3 | exact PuA)); first | refine ⟨_, EndsA, QFWaI1, ?_⟩ | refine fin ?_) | (apply RD_W; rfl; intro bk))
  exact ⟨i + 1, by omega, by omega, SFA, SOA⟩
 ·have hal := fun w' (hw : Bel w.heap.size w w') hA => Zt0 br bz bl w' (hL.up hw) (hG.up hw) hA
  have hno := fun w' (hw : Bel w.heap.size w w') hA => ZrX br bz bl w' (hL.up hw) (hG.up hw) hA
  have hfr := fun w' => Zkw (some ⟨br, 0, none⟩) (some ⟨bz, 0, none⟩) (some ⟨bl, 0, none⟩) none 3 1 1 0 ex27 ⟨#[90]⟩ 36028797018963969 w' (by decide)
  clear hnx d1 d2 d3 d4
  repeat (first | refine walk ?_ | (refine jg ?_; (try intro F); (first | (apply Zag (h := fun w' hw hO => hal w' hw (ZaA (hO.of (A := .fact S _) (by repeat' constructor)))); rfl; rintro v O' ⟨Ao, co, At, ct, rfl, rfl⟩) | (refine Zac d5 ?_) | (refine Zac (fun w' _ => hfr w') ?_) | (refine ZaF (fun w' hw hO => hno w' hw (ZaA (hO.of (A := .fact S _) (by repeat' constructor)))) ?_) | (refine bx ?_; intro bk) | (refine stA ?_)); refine fin ?_) | (refine jn ?_; (try intro F); (first | (refine bx ?_; intro bk) | (refine stA ?_) | (apply Zae; exact PuA)); refine fin ?_) | (apply RD_W; rfl; intro bk))
  generalize bk = bT
  repeat (first | refine und ?_ | refine walk ?_ | (refine jg ?_; (try intro F); (first | (refine ZaF (fun w' _ hO => ZAS Ao bT co w' (ZaW Zbs.len (hO.of (A := .row (.slice Ao o27.length co) _ _ _ _) (by repeat' constructor))) (Zh7 (c := 4) (l := y27) (enc := Zbs) (t := 45) Zbs.len (Nat.le_refl 4) (by decide) (hO.of (A := .blk bT _ _) (by repeat' constructor)))) ?_) | (refine bx ?_; intro bk) | (refine stA ?_)); refine fin ?_) | (refine jn ?_; (try intro F); (first | (refine bx ?_; intro bk) | (refine stA ?_) | (apply Zae; exact PuA)); refine fin ?_) | (apply RD_W; rfl; intro bk))
  generalize bk = bL
  repeat (first | refine und ?_ | (apply RL_pu; rfl; exact Zx2) | (apply RD_Q; rfl; rfl; decide +kernel; rfl; rfl; exact QyWaI2) | refine walk1 ?_ | (refine jg ?_; (try intro F); (first | (refine ZaF (fun w' _ hO => ZAT At bL ct w' (ZaW Zaf.len (hO.of (A := .row (.slice At t27.length ct) _ _ _ _) (by repeat' constructor))) (Zh7 (c := 3) (l := t27) (enc := Zaf.enc) (t := 47) Zaf.len (Nat.le_refl 3) (by decide) (hO.of (A := .blk bL _ _) (by repeat' constructor)))) ?_) | (refine bx ?_; intro bk) | (refine stA ?_)); first | refine ⟨_, EndsA, QFWaI2, ?_⟩ | refine fin ?_) | (refine jn ?_; (try intro F); (first | (refine bx ?_; intro bk) | (refine stA ?_) | (apply Zae; first | exact Zx2 | exact PuA)); first | refine ⟨_, EndsA, QFWaI2, ?_⟩ | refine fin ?_) | (apply RD_W; rfl; intro bk))
  exact rtA
attribute [local irreducible] Zap
theorem ZoX {n : Int} : inR .u64 n ↔ 0 <= n /\ n <= 18446744073709551615 := Iff.rfl
theorem Zzw {P : Program} {n : Nat} {wr : World} {fr : Fr} {O : List It} {ty : TypeId} {t t' : TypeId} {x y : Operand} {i j q : Int} (hx : ev fr x = some (.int .i64 i)) (hy : ev fr y = some (.int .i64 j)) (h0 : 0 <= i) (h1 : i <= 9223372036854775807) (hj : 0 < j) (hq : i / j = q) : Pu P n wr fr O (.binOp .quo t x y t') ty (.int .i64 q) := hq ▸ Pu_quo64 hx hy h0 h1 hj
theorem ZiM (x : Zaf) : [x].Nodup := List.nodup_cons.2 ⟨by simp, List.nodup_nil⟩
end Go.Proofs.YtpcpmndldgejiaaGreatDoor
namespace Go.Proofs.YtpcpmndldgejiaaGreatDoor
open Go Go.RowKit Go.Wk Go.ChangeShapes Go.WideShapes Go.ChangeAt
section
variable {H : Type} {enc : TypeId × Value -> H} {w : World} {sp : Nat -> Bool} {held : Bool}
theorem Ztk {n : Nat} {cs : List Value} {y : DataW H × List MemPlace} (h : DataW.trod enc Tryz.prog w 0 sp held n 5 cs = some y) : ∃ d : Int, cs = ZcH d /\ inR .u8 d := by
 obtain ⟨x, e, _, b⟩ := DataW.trod_int Tryz.underlying5 h
 exact ⟨x, e, Ze0 b⟩
def ZnV {α : Type} (w : World) (en : α -> List Value) (sz : Nat) (ok : α -> Prop) (l : List α) (cs : List Value) : Prop := ∃ B cb, RdSl w B cb en sz l /\ cs = [.slice B l.length cb] /\ ∀ x ∈ l, ok x
theorem ZyQ {n : Nat} {cs : List Value} {y : DataW H × List MemPlace} (h : DataW.trod enc Tryz.prog w 0 sp held n 103 cs = some y) : ∃ l, ZnV w ZcH 1 (inR .u8) l cs := by
 obtain ⟨v, rfl⟩ : ∃ v, cs = [v] := by
  rcases Deep.open_slice Tryz.underlying103 h with ⟨h0, _⟩ | ⟨a, len, cap, m, n, D, Pl, hcs, _⟩
  ·exact ⟨_, h0⟩
  ·exact ⟨_, hcs⟩
 obtain ⟨B, l, cb, rfl, h1, h2⟩ := Zlt Tryz.underlying103 ZcH (inR .u8) (sz := 1) (by kernel_rfl) (fun n cs y h => Ztk h) h
 exact ⟨l, B, cb, h1, rfl, h2⟩
theorem Zwg {n : Nat} {cs : List Value} {y : DataW H × List MemPlace} (h : DataW.trod enc Tryz.prog w 0 sp held n 106 cs = some y) : ∃ l, ZnV w E23.enc 8 E23.ok l cs := by
 obtain ⟨v, rfl⟩ : ∃ v, cs = [v] := by
  rcases Deep.open_slice Tryz.underlying106 h with ⟨h0, _⟩ | ⟨a, len, cap, m, n, D, Pl, hcs, _⟩
  ·exact ⟨_, h0⟩
  ·exact ⟨_, hcs⟩
 obtain ⟨B, l, cb, rfl, h1, h2⟩ := Zlt Tryz.underlying106 E23.enc E23.ok (sz := 8) (by kernel_rfl) (fun n cs y h => ZzR h) h
 exact ⟨l, B, cb, h1, rfl, h2⟩
theorem Zs5 {α : Type} {en : α -> List Value} {sz : Nat} {ok : α -> Prop} {A : Option Addr} {ls : List (List α)} {c : Nat} (s1 : ls.length <= c) (s2 : c <= maxLen) (s3 : ∀ k l, ls[k]? = some l -> A ≠ none /\ ∃ cs, ZnV w en sz ok l cs /\ Zao w ((adr A).add (k * 1)) cs) :
  RdLL w A c en sz ls /\ ∀ l ∈ ls, ∀ x ∈ l, ok x := by
 refine ⟨⟨s1, s2, fun k l hk => ?_⟩, fun l hl => ?_⟩
 ·obtain ⟨h4, cs', ⟨B, cb, h5, rfl, _⟩, h6⟩ := s3 k l hk
  exact ⟨h4, B, cb, h5, h6⟩
 ·obtain ⟨k, hk⟩ := List.getElem?_of_mem hl
  obtain ⟨_, _, ⟨_, _, _, _, h5⟩, _⟩ := s3 k l hk
  exact h5
set_option maxRecDepth 100000 in
theorem Zie {v : Value} {r : Reach} {b0 : Nat} {d : DataW H} {ps : List MemPlace} (hv : Value.okWide Tryz.prog w r b0 26 v) (h : DataW.Trod enc Tryz.prog w 0 sp held 26 v d ps) :
  ∃ As Az Al cs cz cl d, v = d23V As Az Al cs cz cl d /\ RdLL w As cs ZcH 1 d.sets /\ RdLL w Az cz E23.enc 8 d.zones /\ RdSl w Al cl ZcH 1 d.links /\ (∀ l ∈ d.sets, ∀ x ∈ l, inR .u8 x) /\ (∀ l ∈ d.zones, ∀ x ∈ l, x.ok) /\ (∀ x ∈ d.links, inR .u8 x) := by
 obtain ⟨vs, rfl, hsz⟩ := okWide_struct Tryz.underlying26 hv
 obtain ⟨fuel, h⟩ := h
 obtain ⟨hl, hf⟩ := ZqC Tryz.underlying26 h
 rw [show Tryz.prog.cellsOf 26 = 3 from by kernel_rfl] at hl
 obtain ⟨vs⟩ := vs
 simp only [Value.cells] at hl hf
 obtain ⟨a0, cs0, rfl, hl0⟩ := ZaS hl
 obtain ⟨a1, cs1, rfl, hl1⟩ := ZaS hl0
 obtain ⟨a2, cs2, rfl, hl2⟩ := ZaS hl1
 obtain rfl := List.eq_nil_of_length_eq_zero hl2
 obtain ⟨n0, y0, h0⟩ := hf 0 22 0 1 rfl (by kernel_rfl)
 obtain ⟨n1, y1, h1⟩ := hf 1 23 1 1 rfl (by kernel_rfl)
 obtain ⟨n2, y2, h2⟩ := hf 2 24 2 1 rfl (by kernel_rfl)
 obtain ⟨As, ls, cs, rfl, s1, s2, s3⟩ := Zlu Tryz.underlying22 (fun (l : List Int) cs => ZnV w ZcH 1 (inR .u8) l cs) (fun n cs y h => ZyQ h) h0
 obtain ⟨Az, lz, cz, rfl, z1, z2, z3⟩ := Zlu Tryz.underlying23 (fun (l : List E23) cs => ZnV w E23.enc 8 E23.ok l cs) (fun n cs y h => Zwg h) h1
 obtain ⟨Al, ll, cl, rfl, l1, l2⟩ := Zlt Tryz.underlying24 ZcH (inR .u8) (sz := 1) (by kernel_rfl) (fun n cs y h => Ztk h) h2
 rw [show Tryz.prog.cellsOf 103 = 1 from by kernel_rfl] at s3
 rw [show Tryz.prog.cellsOf 106 = 1 from by kernel_rfl] at z3
 obtain ⟨g1, g2⟩ := Zs5 s1 s2 s3
 obtain ⟨g3, g4⟩ := Zs5 z1 z2 z3
 exact ⟨As, Az, Al, cs, cz, cl, ⟨ls, lz, ll⟩, rfl, g1, g3, l1, g2, g4, l2⟩
set_option maxRecDepth 100000 in
theorem ZzW {v : Value} {r : Reach} {b0 : Nat} {d : DataW H} {ps : List MemPlace} (hv : Value.okWide Tryz.prog w r b0 5 v) (h : DataW.Trod enc Tryz.prog w 0 sp held 5 v d ps) : ∃ x : Int, v = .int .u8 x /\ inR .u8 x := by
 obtain ⟨n, rfl⟩ := okWide_int Tryz.underlying5 hv
 obtain ⟨fuel, h⟩ := h
 obtain ⟨x, e, b⟩ := Ztk h
 simp only [Value.cells, ZcH, List.cons.injEq, and_true] at e
 exact ⟨x, e, b⟩
end
section
variable {H : Type} {enc : TypeId × Value -> H} {w : World} {sp : Nat -> Bool} {held : Bool}
set_option maxRecDepth 100000 in
theorem Zid {v : Value} {r : Reach} {b0 : Nat} {d : DataW H} {ps : List MemPlace} (hv : Value.okWide Tryz.prog w r b0 28 v) (h : DataW.Trod enc Tryz.prog w 0 sp held 28 v d ps) : ∃ x : Int, v = .int .u32 x /\ inR .u32 x := by
 obtain ⟨n, rfl⟩ := okWide_int Tryz.underlying28 hv
 obtain ⟨fuel, h⟩ := h
 have h2 : DataW.trod enc Tryz.prog w 0 sp held fuel 28 [.int .u32 n] = some (d, ps) := h
 obtain ⟨x, e, _, b⟩ := DataW.trod_int Tryz.underlying28 h2
 simp only [List.cons.injEq, and_true] at e
 exact ⟨x, e, Ze0 b⟩
set_option maxRecDepth 100000 in
theorem Zte {v : Value} {r : Reach} {b0 : Nat} {d : DataW H} {ps : List MemPlace} (hv : Value.okWide Tryz.prog w r b0 5 v) (h : DataW.Trod enc Tryz.prog w 0 sp held 5 v d ps) : ∃ x : Int, v = .int .u8 x /\ inR .u8 x := ZzW hv h
end
section
variable {H : Type} {enc : TypeId × Value -> H} {w : World} {sp : Nat -> Bool} {held : Bool}
set_option maxRecDepth 100000 in
theorem Zly {v : Value} {r : Reach} {b0 : Nat} {d : DataW H} {ps : List MemPlace} (hv : Value.okWide Tryz.prog w r b0 27 v) (h : DataW.Trod enc Tryz.prog w 0 sp held 27 v d ps) : ∃ x : Int, v = .int .u64 x /\ inR .u64 x := by
 obtain ⟨n, rfl⟩ := okWide_int Tryz.underlying27 hv
 obtain ⟨fuel, h⟩ := h
 have h2 : DataW.trod enc Tryz.prog w 0 sp held fuel 27 [.int .u64 n] = some (d, ps) := h
 obtain ⟨x, e, _, b⟩ := DataW.trod_int Tryz.underlying27 h2
 simp only [List.cons.injEq, and_true] at e
 exact ⟨x, e, Ze0 b⟩
end
end Go.Proofs.YtpcpmndldgejiaaGreatDoor
namespace Go.Wk
open Go Go.RowKit Go.ChangeShapes Go.WideShapes Go.ChangeAt
section
variable {H : Type} {enc : TypeId × Value -> H}
def Zik : DataW Unit -> List Value
 | .agg l => l.map fun | .lit (.int k n) => .int k n | _ => undef
 | .lit (.int k n) => [.int k n]
 | _ => []
end
def ZyF (P : Program) (tb : List (String × FuncId)) (tok : List UInt8) : Option FuncId :=
 if tok = [] then none else (tb.find? fun x => x.1.toUTF8.data.toList == tok && P.funcNamed x.1 == some x.2).map (·.2)
section
variable {H : Type}
def Zjb (P : Program) (tok : H -> Option FuncId) : Nat -> TypeId -> DataW H -> Nat -> Option Value
 | 0, _, _, _ => none
 | f + 1, t, d, j =>
  match P.underlying t, d with
  | some .bool, .lit (.bool b) => if j = 0 then some (.bool b) else none
  | some (.int k), .lit (.int _ n) => if j = 0 then some (.int k n) else none
  | some .string, .lit (.string l) => if j = 0 then some (.string ⟨l.toArray⟩) else none
  | some (.func ..), .nil => if j = 0 then some .nilFunc else none
  | some (.func ..), .held x => if j = 0 then (tok x).map fun g => .func (.func g) #[] #[] else none
  | some (.array n e), .agg ds => if j / P.cellsOf e < n then (match ds[j / P.cellsOf e]? with | some d' => Zjb P tok f e d' (j % P.cellsOf e) | none => none) else none
  | some (.struct fs), .agg ds =>
   match (List.range fs.size).find? fun i => match fs[i]? with | some x => decide (x.offset <= j) && decide (j < x.offset + P.cellsOf x.type) | none => false with
   | some i => (match fs[i]?, ds[i]? with | some x, some d' => Zjb P tok f x.type d' (j - x.offset) | _, _ => none)
   | none => none
  | _, _ => none
end
theorem Zor {P : Program} {tb : List (String × FuncId)} {l : List UInt8} {g : FuncId} {t : TypeId} {v : Value} (h : ZyF P tb l = some g) (hv : funcToken P (t, v) = l) : v = .func (.func g) #[] #[] := by
 unfold ZyF at h
 cases l with
 | nil => rw [if_pos rfl] at h; cases h
 | cons b r =>
  obtain ⟨f, fn, rfl, h1, h2, h3⟩ := funcToken_tells hv
  rw [if_neg (by simp)] at h
  cases hx : tb.find? (fun x => x.1.toUTF8.data.toList == b :: r && P.funcNamed x.1 == some x.2) with
  | none => rw [hx] at h; cases h
  | some x =>
   rw [hx] at h
   have hp := List.find?_some hx
   simp only [Bool.and_eq_true, beq_iff_eq] at hp
   have hs : x.1 = fn.name := by
    have : x.1.toUTF8 = fn.name.toUTF8 := by
     apply ByteArray.ext
     apply Array.ext'
     rw [hp.1, h3]
    exact String.toByteArray_inj.1 this
   rw [hs, h2] at hp
   have := hp.2
   simp only [Option.map_some, Option.some.injEq] at h this
   rw [this, h]
theorem ZmM {cs : List Value} {o c j : Nat} {v : Value} (h : ((cs.drop o).take c)[j]? = some v) : cs[o + j]? = some v := by
 rw [List.getElem?_take] at h
 split at h
 ·rwa [List.getElem?_drop] at h
 ·cases h
theorem Zja {H : Type} {enc : TypeId × Value -> H} {tok : H -> Option FuncId} {P : Program} {w : World} {base : Nat} {sp : Nat -> Bool} {held : Bool} (htok : ∀ t v g, tok (enc (t, v)) = some g -> v = .func (.func g) #[] #[]) : ∀ (f : Nat) (t : TypeId) (d : DataW H) (j : Nat) (v : Value) (fuel : Nat) (cs : List Value) (p : List MemPlace), Zjb P tok f t d j = some v ->
  DataW.trod enc P w base sp held fuel t cs = some (d, p) -> cs[j]? = some v
 | 0, _, _, _, _, _, _, _, h, _ => by cases h
 | f + 1, t, d, j, v, fuel, cs, p, h, ht => by
  unfold Zjb at h
  split at h
  ·rename_i hu
   obtain ⟨b', rfl, hx⟩ := DataW.trod_bool hu ht
   simp only [Prod.mk.injEq, DataW.lit.injEq, Lit.bool.injEq] at hx
   split at h
   ·rename_i hj
    subst hj
    simp only [Option.some.injEq] at h
    rw [<- h, hx.1]; rfl
   ·cases h
  ·rename_i hu
   obtain ⟨n', rfl, hx, _⟩ := DataW.trod_int hu ht
   simp only [Prod.mk.injEq, DataW.lit.injEq, Lit.int.injEq] at hx
   split at h
   ·rename_i hj
    subst hj
    simp only [Option.some.injEq] at h
    rw [<- h, hx.1.2]; rfl
   ·cases h
  ·rename_i hu
   obtain ⟨s, rfl, hx, _⟩ := DataW.trod_string hu ht
   simp only [Prod.mk.injEq, DataW.lit.injEq, Lit.string.injEq] at hx
   split at h
   ·rename_i hj
    subst hj
    simp only [Option.some.injEq] at h
    rw [<- h, hx.1]; simp
   ·cases h
  ·rename_i hu
   split at h
   ·rename_i hj
    subst hj
    cases fuel with
    | zero => simp [DataW.trod] at ht
    | succ n =>
     unfold DataW.trod at ht
     rw [hu] at ht
     simp only [Option.some.injEq] at h
     subst h
     split at ht <;> simp_all
   ·cases h
  ·rename_i hu
   split at h
   ·rename_i hj
    subst hj
    cases fuel with
    | zero => simp [DataW.trod] at ht
    | succ n =>
     unfold DataW.trod at ht
     rw [hu] at ht
     rename_i x0
     cases hk : tok x0 with
     | none => rw [hk] at h; cases h
     | some g =>
      rw [hk] at h
      simp only [Option.map_some, Option.some.injEq] at h
      subst h
      split at ht <;> first | (exfalso; simp_all; done) | skip
      all_goals (split at ht <;> first | (exfalso; simp_all; done) | skip)
      all_goals simp only [Option.some.injEq, Prod.mk.injEq, DataW.held.injEq] at ht
      all_goals (rw [<- ht.1] at hk; rw [htok _ _ _ hk]; rfl)
   ·cases h
  ·rename_i n e ds hu
   obtain ⟨xs, m, rfl, hx, hlen, hn, hel⟩ := DataW.trod_array hu ht
   simp only [Prod.mk.injEq, DataW.agg.injEq] at hx
   split at h
   ·rename_i hj
    split at h
    ·rename_i d' hd
     rw [hx.1, List.getElem?_map] at hd
     cases hy : xs[j / P.cellsOf e]? with
     | none => rw [hy] at hd; cases hd
     | some y =>
      rw [hy] at hd
      simp only [Option.map_some, Option.some.injEq] at hd
      have h1 := hel _ hj
      rw [hy] at h1
      have h2 := Zja htok f e d' _ v m _ y.2 h (by rw [h1, <- hd])
      have h3 := ZmM h2
      rwa [Nat.mul_comm, Nat.div_add_mod] at h3
    ·cases h
   ·cases h
  ·rename_i fs ds hu
   obtain ⟨xs, m, rfl, hx, hlen, hn, hel⟩ := DataW.trod_struct hu ht
   simp only [Prod.mk.injEq, DataW.agg.injEq] at hx
   split at h
   ·rename_i i hi
    split at h
    ·rename_i x d' hf hd
     rw [hx.1, List.getElem?_map] at hd
     cases hy : xs[i]? with
     | none => rw [hy] at hd; cases hd
     | some y =>
      rw [hy] at hd
      simp only [Option.map_some, Option.some.injEq] at hd
      have h1 := hel i x hf
      rw [hy] at h1
      have h2 := Zja htok f x.type d' _ v m _ y.2 h (by rw [h1, <- hd])
      have h3 := ZmM h2
      have hp := List.find?_some hi
      rw [hf] at hp
      simp only [Bool.and_eq_true, decide_eq_true_eq] at hp
      rwa [show x.offset + (j - x.offset) = j by omega] at h3
    ·cases h
   ·cases h
  ·cases h
theorem ZgQ {H : Type} {enc : TypeId × Value -> H} {tok : H -> Option FuncId} {P : Program} {w : World} {base : Nat} {sp : Nat -> Bool} {held : Bool} (htok : ∀ t v g, tok (enc (t, v)) = some g -> v = .func (.func g) #[] #[]) {n : String} {d : DataW H} {g : Nat} {t : TypeId} {cells : List Value} {s : Nat} {cs : Array Value} {fu : Nat} {p : List MemPlace} (fuel : Nat)
  (h1 : P.globalNamed n = some g) (h3 : w.var? P n = some cs) (h4 : DataW.trod enc P w base sp held fu t cs.toList = some (d, p)) (hc : (List.range cells.length).map (fun j => Zjb P tok fuel t d (s + j)) = cells.map some) : Zao w ⟨g, s, none⟩ cells := by
 intro j v hj
 have hjl := (List.getElem?_eq_some_iff.1 hj).1
 have h5 := congrArg (fun l => l[j]?) hc
 simp only [List.getElem?_map, List.getElem?_range hjl, Option.map_some, hj] at h5
 simp only [Option.some.injEq] at h5
 have h6 := Zja htok fuel t _ _ v _ _ _ h5 h4
 rw [Zca]
 have h7 := World.var?_cell h1 h3 (s + j)
 rw [h7]
 simpa using h6
theorem ZaU {P : Program} {w : World} {n : String} {d : DataW Unit} {g : Nat} {t : TypeId} {cells : List Value} {s : Nat} (tb : List (String × FuncId)) (fuel : Nat) (h : funcsAt P w n d) (hg : P.globalNamed n = some g) (ht : (P.globals[g]?).map (·.type) = some t)
  (hc : (List.range cells.length).map (fun j => Zjb P (ZyF P tb) fuel t d.funcsOut (s + j)) = cells.map some) : Zao w ⟨g, s, none⟩ cells := by
 obtain ⟨g', t', cs, fu, p, h1, h2, h3, h4⟩ := h
 obtain rfl := Option.some.inj (hg.symm.trans h1)
 obtain rfl := Option.some.inj (ht.symm.trans h2)
 exact ZgQ (fun _ _ _ hk => Zor hk rfl) fuel h1 h3 h4 hc
theorem ZeY {P : Program} {w : World} : ∀ {l : List (String × DataW Unit)} {ps : List MemPlace}, DataW.LaidVars P w l ps -> ∀ {n : String} {d : DataW Unit}, (n, d) ∈ l ->
  ∃ g t cs fuel p, P.globalNamed n = some g /\ (P.globals[g]?).map (·.type) = some t /\ w.var? P n = some cs /\ DataW.trod (fun _ => ()) P w 0 (fun _ => true) false fuel t cs.toList = some (d, p)
 | [], _, _, _, _, h => by cases h
 | (n0, d0) :: l, ps, hl, n, d, h => by
  obtain ⟨g, t, cs, fuel, p, q, h1, h2, h3, h4, h5, _⟩ := hl
  rcases List.mem_cons.1 h with he | h
  ·obtain ⟨rfl, rfl⟩ := Prod.mk.inj he
   exact ⟨g, t, cs, fuel, p, h1, h2, h3, h4⟩
  ·exact ZeY h5 h
theorem ZhQ {P : Program} {l : List (String × DataW Unit)} {w : World} (h : laidMetH P l w) : laidMet P (l.filter fun x => x.2.handleName?.isNone) w := by
 unfold laidMetH at h
 generalize hfl : (l.filter fun x => x.2.handleName?.isSome) = fl at h
 cases fl with
 | nil =>
  have e : (l.filter fun x => x.2.handleName?.isNone) = l := by
   rw [List.filter_eq_self]
   intro x hx
   have := (List.filter_eq_nil_iff.1 hfl) x hx
   cases hn : x.2.handleName? with
   | none => rfl
   | some s => rw [hn] at this; exact absurd rfl this
  rw [e]
  exact h
 | cons a ys => exact h.1
theorem ZcW {P : Program} {w : World} {l : List (String × DataW Unit)} {n : String} {d : DataW Unit} {g : Nat} {t : TypeId} {cells : List Value} (fuel : Nat) (h : laidMetH P l w) (hm : (n, d) ∈ l.filter fun x => x.2.handleName?.isNone) (hg : P.globalNamed n = some g) (ht : (P.globals[g]?).map (·.type) = some t)
  (hc : (List.range cells.length).map (fun j => Zjb P (fun _ : Unit => none) fuel t d (0 + j)) = cells.map some) : Zao w ⟨g, 0, none⟩ cells := by
 obtain ⟨ps, hl, _⟩ := ZhQ h
 obtain ⟨g', t', cs, fu, p, h1, h2, h3, h4⟩ := ZeY hl hm
 obtain rfl := Option.some.inj (hg.symm.trans h1)
 obtain rfl := Option.some.inj (ht.symm.trans h2)
 exact ZgQ (fun _ _ _ hk => by cases hk) fuel h1 h3 h4 hc
def Zz6 : TypeDesc -> Bool | .interface _ => true | _ => false
theorem ZcV {P : Program} {w : World} {l : List (String × DataW Unit)} {n : String} {d : DataW Unit} {g : Nat} {t : TypeId} (h : laidMetH P l w) (hm : (n, d) ∈ l.filter fun x => x.2.handleName?.isNone) (hg : P.globalNamed n = some g) (ht : (P.globals[g]?).map (·.type) = some t)
  (hi : (P.underlying t).map Zz6 = some true) : ∃ ev, w.cell? ⟨g, 0, none⟩ = some ev /\ (ev = .nilIface \/ ∃ te pe, ev = .iface te pe) := by
 obtain ⟨ps, hl, _⟩ := ZhQ h
 obtain ⟨g', t', cs, fu, p, h1, h2, h3, h4⟩ := ZeY hl hm
 obtain rfl := Option.some.inj (hg.symm.trans h1)
 obtain rfl := Option.some.inj (ht.symm.trans h2)
 have h7 := World.var?_cell h1 h3 0
 obtain ⟨ms, hu⟩ : ∃ ms, P.underlying t = some (.interface ms) := by
  cases hd : P.underlying t with
  | none => rw [hd] at hi; cases hi
  | some td => cases td <;> first | exact ⟨_, rfl⟩ | (rw [hd] at hi; simp [Zz6] at hi)
 cases fu with
 | zero => simp [DataW.trod] at h4
 | succ f =>
  unfold DataW.trod at h4
  rw [hu] at h4
  split at h4 <;> first | (exfalso; simp_all; done) | skip
  ·rename_i hc
   exact ⟨.nilIface, by rw [h7, <- Array.getElem?_toList, hc]; rfl, .inl rfl⟩
  ·rename_i hc
   exact ⟨_, by rw [h7, <- Array.getElem?_toList, hc]; rfl, .inr ⟨_, _, rfl⟩⟩
section
variable {H : Type} {enc : TypeId × Value -> H}
theorem Zeh {C : Checked} {os : Os} {f : FuncId} {fn : Func} {s : ChangeSpec} {conds : List PathCond} {t : TypeId} (laid : List (String × DataW Unit)) (own : ownKnob C.prog.godebug = none) (started : os.Started) (noInit : C.prog.inits.idxOf? f = none) (hfn : C.prog.funcs[f]? = some fn)
  (witness : ∃ (w : World) (tape : Tape) (i : Input), w.os = os /\ (w.forCall tape i).Shaped C.prog /\ i.vars = [] /\ Input.okWide C.prog (w.forCall tape i) .any w.heap.size f i /\
   ((s.pre enc C.prog fn conds false (w.forCall tape i).memory i.args /\ laidMetH C.prog laid (w.forCall tape i).memory) /\ sizedMet enc C.prog fn (OpenSpec.ofChange s) false (w.forCall tape i).memory i.args) /\ ({} : Assume).holds C.prog (lone (Frame.enter C.prog f i.args .normal) [] (w.forCall tape i)))
  (hvars : s.vars = []) (hres : fn.resultTypes = #[t]) (ht : C.prog.underlying t = some .bool) (hl : laidOutB C.prog = true)
  (hr : fn.params.toList.all (fun t => C.prog.readableRec t && decide (t < C.prog.types.size)) = true) (hspec : ∀ ds : List (DataW H), ds.length = fn.params.toList.length -> s.fn H ds = { results := [.lit (.bool true)], args := ds })
  (walk : ∀ (W : World) (base : Nat) (args : List Value) (ds : List (DataW H)) (p : List MemPlace), (∀ (j : Nat) t v, fn.params.toList[j]? = some t -> args[j]? = some v -> Value.okWide C.prog W .any base t v) -> laidMetH C.prog laid W -> W.ShapedOpen C.prog ->
   DataW.TrodAll enc C.prog W 0 (fun _ => true) true fn.params.toList args ds p -> Does C.prog f args W (fun v _ => v = .bool true)) :
  ReturnsInHanded {} C os f .any (fun w args => (s.pre enc C.prog fn conds false w args /\ laidMetH C.prog laid w) /\ sizedMet enc C.prog fn (OpenSpec.ofChange s) false w args) (s.post enc C.prog fn false true false false) := by
 have hr' : ∀ t ∈ fn.params.toList, C.prog.readableRec t = true /\ t < C.prog.types.size := fun t ht => by
  have := List.all_eq_true.1 hr t ht
  simpa using this
 refine returnsInHanded_of_calls own started noInit witness ?_
 intro w tape i _ hsh _ hok hpre hholds
 obtain ⟨_, _, _, fn', hfn', _, _, _, _, hval⟩ := hok
 have e : fn' = fn := Option.some.inj (hfn'.symm.trans hfn)
 subst e
 obtain ⟨⟨⟨ds, gs, before, hw, hc⟩, hx⟩, hz⟩ := hpre
 have hw' := DataW.Whole.of_heap (w' := w.forCall tape i) (by rfl) hw
 obtain ⟨p, q, hA, _⟩ := id hw'
 have hd := walk (w.forCall tape i) w.heap.size i.args.toList ds p (fun j t v h1 h2 => hval j t v (by simpa using h1) (by simpa using h2)) (laidMetH.of_heap (by rfl) hx) hsh hA
 unfold Does at hd
 rw [Array.toArray_toList] at hd
 refine hd.mono ?_
 rintro e W' ⟨v, O, rfl, hb, _, rfl⟩
 exact ChangeSpec.post_blind (Zwm hvars hres ht hl hr' hspec hw' hb.toBelow)
end
end Go.Wk
