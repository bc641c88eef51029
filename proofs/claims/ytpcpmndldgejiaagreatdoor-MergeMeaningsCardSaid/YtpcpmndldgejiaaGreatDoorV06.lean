/- Parts of the proof. -/
import Derived.Test.YtpcpmndldgejiaaGreatDoorV05
import Derived.Test.YtpcpmndldgejiaaGreatDoorV04
set_option maxHeartbeats 4000000
set_option linter.unusedVariables false
set_option linter.unusedSimpArgs false
namespace Go.Proofs.YtpcpmndldgejiaaGreatDoor
open Go Go.RowKit Go.Wk
attribute [local irreducible] W RL Does Zat Zak retQ Calls Pu Stp RD Qy Ay
def srcV (Ar Az Al As : Option Addr) (cr cz cl cs : Nat) (s : Zaf) : Value := .agg #[.slice Ar s.rules.length cr, .slice Az s.zones.length cz, .slice Al s.links.length cl, .slice As s.shifts.length cs]
theorem ZaT {G G' : Prop} (k : G') (h : Hold G' → G := by intro k9; (first | refine walk ?_ | (refine jn ?_; (try intro F); (apply Zae; exact PuA); refine fin ?_)); exact k9.out) : G := h ⟨k⟩
theorem same_spec (Ar Az Al As : Option Addr) (cr cz cl cs : Nat) (a : Zaf) (Br Bz Bl Bs : Option Addr) (dr dz dl ds : Nat) (b : Zaf) (w : World) (hA : Zao w Ar Az Al As cr cz cl cs a) (hB : Zao w Br Bz Bl Bs dr dz dl ds b) :
  Does Tryz.prog 56 [srcV Ar Az Al As cr cz cl cs a, srcV Br Bz Bl Bs dr dz dl ds b] w (fun v O => v = .bool (decide (a = b)) ∧ O = []) := by
 have hr1 := hA.r.le
 have hr2 := hA.r.cap
 have hl1 := hA.l.le
 have hl2 := hA.l.cap
 have hs1 := hA.s.le
 have hs2 := hA.s.cap
 have hz1 := hA.zle
 have hz2 := hA.zcap
 have hzz : a.zones.length ≤ maxLen := by omega
 unfold maxLen at hr2 hl2 hs2 hz2
 generalize hres : decide (a = b) = res
 rw [dec_source] at hres
 refine Zab Tryz.func56 rfl rfl rfl rfl ?_
 repeat (first | refine ZaT ?_ | (refine jn ?_; (try intro F); (refine bx ?_; intro bk); refine fin ?_))
 apply Zav; rfl; rfl; rfl
 ·intro h1
  repeat (first | refine ZaT ?_ | (refine jn ?_; (try intro F); (refine bx ?_; intro bk); refine fin ?_))
  exact ret_1 _ [] (.tmp rfl) .nil ⟨by rw [← hres, dec_len (xs := a.rules)]; simp; simp at h1; omega, rfl⟩
 intro h1
 repeat (first | refine ZaT ?_ | (refine jn ?_; (try intro F); (refine bx ?_; intro bk); refine fin ?_))
 apply Zav; rfl; rfl; rfl
 ·intro h2
  repeat (first | refine ZaT ?_ | (refine jn ?_; (try intro F); (refine bx ?_; intro bk); refine fin ?_))
  exact ret_1 _ [] (.tmp rfl) .nil ⟨by rw [← hres, dec_len (xs := a.links)]; simp; simp at h2; omega, rfl⟩
 intro h2
 repeat (first | refine ZaT ?_ | (refine jn ?_; (try intro F); (refine bx ?_; intro bk); refine fin ?_))
 apply Zav; rfl; rfl; rfl
 ·intro h3
  repeat (first | refine ZaT ?_ | (refine jn ?_; (try intro F); (refine bx ?_; intro bk); refine fin ?_))
  exact ret_1 _ [] (.tmp rfl) .nil ⟨by rw [← hres, dec_len (xs := a.shifts)]; simp; simp at h3; omega, rfl⟩
 intro h3
 have e1 : a.rules.length = b.rules.length := by simp at h1; omega
 have e2 : a.links.length = b.links.length := by simp at h2; omega
 have e3 : a.shifts.length = b.shifts.length := by simp at h3; omega
 clear h1 h2 h3
 repeat (first | refine walk ?_ | (refine jg ?_; (try intro F); (first | (refine Zad (fun w' hw => zones_spec Az Bz cz dz a.zones b.zones w' (hA.z.up hw) (hB.z.up hw) hzz) ?_) | (refine bx ?_; intro bk)); refine fin ?_) | (refine jn ?_; (try intro F); (first | (refine bx ?_; intro bk) | (apply Zae; exact PuA)); refine fin ?_))
 refine Zag rfl (fun h4 => ?_) (fun h4 => ?_)
 ·repeat (first | refine ZaT ?_ | (refine jn ?_; (try intro F); (refine bx ?_; intro bk); refine fin ?_))
  simp at h4
  exact ret_1 _ [] (.tmp rfl) .nil ⟨by rw [← hres]; simp [h4], rfl⟩
 simp only [Bool.not_eq_false', decide_eq_true_eq] at h4
 rw [h4] at hres
 simp only [decide_true, Bool.and_true] at hres
 repeat (first | refine ZaT ?_ | (refine jn ?_; (try intro F); (refine bx ?_; intro bk); refine fin ?_))
 refine Zal [(2, _), (3, _), (4, _)] _ (fun k : Nat => [(5, .int .i64 k)]) (fun _ => []) (fun k => k ≤ a.rules.length ∧ (decide (a.rules.drop k = b.rules.drop k) && (decide (a.links = b.links) && decide (a.shifts = b.shifts))) = res) (fun k => a.rules.length - k) 0 ⟨rfl, rfl, rfl, rfl, trivial⟩ (.refl _) ⟨by omega, by simpa using hres⟩ ?_
 rintro k ⟨hk, hi⟩
 repeat (first | refine ZaT ?_ | (refine jn ?_; (try intro F); (refine bx ?_; intro bk); refine fin ?_))
 refine Zag rfl (fun hc => ?_) (fun hc => ?_)
 ·simp only [decide_eq_true_eq, Int.ofNat_lt] at hc
  have hcy : k < b.rules.length := by omega
  obtain ⟨hna, hca⟩ := hA.r.rd k _ (List.getElem?_eq_getElem hc)
  obtain ⟨hnb, hcb⟩ := hB.r.rd k _ (List.getElem?_eq_getElem hcy)
  rw [Zai hc, Zai hcy, ZeU] at hi
  generalize a.rules[k] = p at *
  generalize b.rules[k] = q at *
  repeat (first | (apply RL_pu; rfl; exact PuI) | (apply RD_Q; rfl; rfl; decide +kernel; rfl; rfl; exact QyI) | refine walk1 ?_ | (refine jn ?_; (try intro F); (first | (refine bx ?_; intro bk) | (apply Zae; first | exact PuI | exact PuA)); first | refine ⟨_, EndsA, QFI, ?_⟩ | refine fin ?_))
  refine Zag rfl (fun h3 => ?_) (fun h3 => ?_)
  ·repeat (first | refine ZaT ?_ | (refine jn ?_; (try intro F); (refine bx ?_; intro bk); refine fin ?_))
   exact ret_1 _ [] (.tmp rfl) .nil ⟨by simp at h3; simp [← hi, h3], rfl⟩
  repeat (first | refine ZaT ?_ | (refine jn ?_; (try intro F); (refine bx ?_; intro bk); refine fin ?_))
  simp at h3
  exact ⟨k + 1, by omega, ⟨by omega, by rw [← hi]; simp [h3]⟩, SFA, SOA⟩
 simp only [decide_eq_false_iff_not, Int.ofNat_lt] at hc
 have hres2 : (decide (a.links = b.links) && decide (a.shifts = b.shifts)) = res := by rw [← hi, dec_nil (xs := a.rules) (by omega) (by omega)]; simp
 clear hi hres
 repeat (first | refine ZaT ?_ | (refine jn ?_; (try intro F); (refine bx ?_; intro bk); refine fin ?_))
 refine Zal [(2, _), (3, _), (4, _)] _ (fun k : Nat => [(6, .int .i64 k)]) (fun _ => []) (fun k => k ≤ a.links.length ∧ (decide (a.links.drop k = b.links.drop k) && decide (a.shifts = b.shifts)) = res) (fun k => a.links.length - k) 0 ⟨rfl, rfl, rfl, rfl, trivial⟩ (.refl _) ⟨by omega, by simpa using hres2⟩ ?_
 rintro k ⟨hk, hi⟩
 repeat (first | refine ZaT ?_ | (refine jn ?_; (try intro F); (refine bx ?_; intro bk); refine fin ?_))
 refine Zag rfl (fun hc => ?_) (fun hc => ?_)
 ·simp only [decide_eq_true_eq, Int.ofNat_lt] at hc
  have hcy : k < b.links.length := by omega
  obtain ⟨hna, hca⟩ := hA.l.rd k _ (List.getElem?_eq_getElem hc)
  obtain ⟨hnb, hcb⟩ := hB.l.rd k _ (List.getElem?_eq_getElem hcy)
  rw [Zai hc, Zai hcy, ZeU] at hi
  generalize a.links[k] = p at *
  generalize b.links[k] = q at *
  repeat (first | (apply RL_pu; rfl; exact PuI) | (apply RD_Q; rfl; rfl; decide +kernel; rfl; rfl; exact QyI) | refine walk1 ?_ | (refine jn ?_; (try intro F); (first | (refine bx ?_; intro bk) | (apply Zae; first | exact PuI | exact PuA)); first | refine ⟨_, EndsA, QFI, ?_⟩ | refine fin ?_))
  refine Zag rfl (fun h3 => ?_) (fun h3 => ?_)
  ·repeat (first | refine ZaT ?_ | (refine jn ?_; (try intro F); (refine bx ?_; intro bk); refine fin ?_))
   exact ret_1 _ [] (.tmp rfl) .nil ⟨by simp at h3; simp [← hi, h3], rfl⟩
  repeat (first | refine ZaT ?_ | (refine jn ?_; (try intro F); (refine bx ?_; intro bk); refine fin ?_))
  simp at h3
  exact ⟨k + 1, by omega, ⟨by omega, by rw [← hi]; simp [h3]⟩, SFA, SOA⟩
 simp only [decide_eq_false_iff_not, Int.ofNat_lt] at hc
 have hres3 : decide (a.shifts = b.shifts) = res := by rw [← hi, dec_nil (xs := a.links) (by omega) (by omega)]; simp
 clear hi hres2
 repeat (first | refine ZaT ?_ | (refine jn ?_; (try intro F); (refine bx ?_; intro bk); refine fin ?_))
 refine Zal [(2, _), (3, _), (4, _)] _ (fun k : Nat => [(7, .int .i64 k)]) (fun _ => []) (fun k => k ≤ a.shifts.length ∧ decide (a.shifts.drop k = b.shifts.drop k) = res) (fun k => a.shifts.length - k) 0 ⟨rfl, rfl, rfl, rfl, trivial⟩ (.refl _) ⟨by omega, by simpa using hres3⟩ ?_
 rintro k ⟨hk, hi⟩
 repeat (first | refine ZaT ?_ | (refine jn ?_; (try intro F); (refine bx ?_; intro bk); refine fin ?_))
 refine Zag rfl (fun hc => ?_) (fun hc => ?_)
 ·simp only [decide_eq_true_eq, Int.ofNat_lt] at hc
  have hcy : k < b.shifts.length := by omega
  obtain ⟨hna, hca⟩ := hA.s.rd k _ (List.getElem?_eq_getElem hc)
  obtain ⟨hnb, hcb⟩ := hB.s.rd k _ (List.getElem?_eq_getElem hcy)
  rw [Zai hc, Zai hcy, ZeU] at hi
  generalize a.shifts[k] = p at *
  generalize b.shifts[k] = q at *
  repeat (first | (apply RL_pu; rfl; exact PuI) | (apply RD_Q; rfl; rfl; decide +kernel; rfl; rfl; exact QyI) | refine walk1 ?_ | (refine jn ?_; (try intro F); (first | (refine bx ?_; intro bk) | (apply Zae; first | exact PuI | exact PuA)); first | refine ⟨_, EndsA, QFI, ?_⟩ | refine fin ?_))
  refine Zag rfl (fun h3 => ?_) (fun h3 => ?_)
  ·repeat (first | refine ZaT ?_ | (refine jn ?_; (try intro F); (refine bx ?_; intro bk); refine fin ?_))
   exact ret_1 _ [] (.tmp rfl) .nil ⟨by simp at h3; simp [← hi, h3], rfl⟩
  repeat (first | refine ZaT ?_ | (refine jn ?_; (try intro F); (refine bx ?_; intro bk); refine fin ?_))
  simp at h3
  exact ⟨k + 1, by omega, ⟨by omega, by rw [← hi]; simp [h3]⟩, SFA, SOA⟩
 simp only [decide_eq_false_iff_not, Int.ofNat_lt] at hc
 repeat (first | refine ZaT ?_ | (refine jn ?_; (try intro F); (refine bx ?_; intro bk); refine fin ?_))
 exact ret_1 _ [] (.tmp rfl) .nil ⟨by rw [← hi, dec_nil (by omega) (by omega)], rfl⟩
def memB (x : ByteArray) : List ByteArray → Bool
 | [] => false
 | y :: l => decide (y = x) || memB x l
def firstOf : List Zaa → ByteArray → Nat → Nat
 | [], _, _ => 0
 | r :: l, x, k => if r.name = x then k else firstOf l x (k + 1)
def takenB (x : ByteArray) (s : Zaf) : Bool := memB x (s.zones.map (·.name)) || memB x (s.links.map (·.name))
def ZbH {α : Type} (p : α → Bool) : List α → Nat → Int
 | [], _ => -1
 | x :: l, k => if p x then k else ZbH p l (k + 1)
theorem index_spec (A : Option Addr) (c : Nat) (l : List ByteArray) (x : ByteArray) (w : World) (hA : RdSl w A c Zau 1 l) :
  Does Tryz.prog 82 [.slice A l.length c, .string x] w (fun v O => v = .int .i64 (ZbH (fun y => decide (x = y)) l 0) ∧ O = []) := by
 have hs1 := hA.le
 have hs2 := hA.cap
 unfold maxLen at hs2
 generalize hres : ZbH (fun y => decide (x = y)) l 0 = res
 refine Zab Tryz.func82 rfl rfl rfl rfl ?_
 repeat (first | refine walk ?_)
 refine Zal [(0, _), (1, _), (4, _), (7, _)] _ (fun k : Nat => [(8, .int .i64 k)]) (fun _ => []) (fun k => k ≤ l.length ∧ ZbH (fun y => decide (x = y)) (l.drop k) k = res) (fun k => l.length - k) 0 ⟨rfl, rfl, rfl, rfl, rfl, trivial⟩ (.refl _) ⟨by omega, by simpa using hres⟩ ?_
 rintro k ⟨hk, hi⟩
 repeat (first | refine walk ?_)
 refine Zag rfl (fun hc => ?_) (fun hc => ?_)
 ·simp only [decide_eq_true_eq, Int.ofNat_lt] at hc
  obtain ⟨hna, hca⟩ := hA.rd k _ (List.getElem?_eq_getElem hc)
  have hnb := hna
  have hcb := hca
  rw [Zai hc, ZbH] at hi
  generalize l[k] = p at *
  repeat (first | (apply RL_pu; rfl; exact PuI) | refine walk1 ?_)
  refine Zag rfl (fun h3 => ?_) (fun h3 => ?_)
  ·repeat (first | refine walk ?_)
   rw [if_pos h3] at hi
   exact ret_1 _ [] (.tmp rfl) .nil ⟨by rw [← hi], rfl⟩
  repeat (first | refine walk ?_)
  rw [h3] at hi
  exact ⟨k + 1, by omega, ⟨by omega, hi⟩, SFA, SOA⟩
 simp only [decide_eq_false_iff_not, Int.ofNat_lt] at hc
 repeat (first | refine walk ?_)
 exact ret_1 _ [] (.tmp rfl) .nil ⟨by rw [← hi, List.drop_eq_nil_of_le (by omega)]; rfl, rfl⟩
theorem findI_mem (x : ByteArray) : ∀ (l : List ByteArray) (k : Nat), decide (0 ≤ ZbH (fun y => decide (x = y)) l k) = memB x l
 | [], k => by simp [ZbH, memB]
 | y :: l, k => by
  have ih := findI_mem x l (k + 1)
  simp only [ZbH, memB]
  by_cases h : x = y
  ·subst h; simp
  ·rw [← ih]
   have : ¬ y = x := fun e => h e.symm
   simp [h, this]
theorem ZcL (A : Option Addr) (c : Nat) (l : List ByteArray) (x : ByteArray) (w : World) (hA : RdSl w A c Zau 1 l) :
  Does Tryz.prog 44 [.slice A l.length c, .string x] w (fun v O => v = .bool (memB x l) ∧ O = []) := by
 refine Zab Tryz.func44 rfl rfl rfl rfl ?_
 repeat (first | (refine js ?_; (refine Zad (fun w' hw => index_spec A c l x w' (hA.up hw)) ?_)) | refine walk ?_)
 exact ret_1 _ [] (.tmp rfl) .nil ⟨by rw [findI_mem], rfl⟩
theorem ZdM {G G' : Prop} (k : G') (h : Hold G' → G := by intro k9; (first | refine walk ?_ | (refine jn ?_; (try intro F); (apply Zae; exact PuA); refine fin ?_)); exact k9.out) : G := h ⟨k⟩
theorem equalR_spec (A B : Option Addr) (ca cb : Nat) (x y : List Zaa) (w : World) (hA : RdSl w A ca Zaa.enc 11 x) (hB : RdSl w B cb Zaa.enc 11 y) :
  Does Tryz.prog 76 [.slice A x.length ca, .slice B y.length cb] w (fun v O => v = .bool (decide (x = y)) ∧ O = []) := by
 have hs1 := hA.le
 have hs2 := hA.cap
 unfold maxLen at hs2
 generalize hres : decide (x = y) = res
 refine Zab Tryz.func76 rfl rfl rfl rfl ?_
 repeat refine ZdM ?_
 refine Zag rfl (fun h1 => ?_) (fun h1 => ?_)
 ·repeat refine ZdM ?_
  exact ret_1 _ [] (.tmp rfl) .nil ⟨by rw [← hres, dec_len]; simp at h1; omega, rfl⟩
 have hlen : x.length = y.length := by simp at h1; omega
 clear h1
 repeat refine ZdM ?_
 refine Zal [(0, _), (1, _), (4, _), (12, _)] _ (fun k : Nat => [(13, .int .i64 k)]) (fun _ => []) (fun k => k ≤ x.length ∧ decide (x.drop k = y.drop k) = res) (fun k => x.length - k) 0 ⟨rfl, rfl, rfl, rfl, rfl, trivial⟩ (.refl _) ⟨by omega, hres⟩ ?_
 rintro k ⟨hk, hi⟩
 repeat refine ZdM ?_
 refine Zag rfl (fun hc => ?_) (fun hc => ?_)
 ·simp only [decide_eq_true_eq, Int.ofNat_lt] at hc
  have hcy : k < y.length := by omega
  obtain ⟨hna, hca⟩ := hA.rd k _ (List.getElem?_eq_getElem hc)
  obtain ⟨hnb, hcb⟩ := hB.rd k _ (List.getElem?_eq_getElem hcy)
  rw [Zai hc, Zai hcy, ZeU] at hi
  generalize x[k] = p at *
  generalize y[k] = q at *
  repeat (first | (apply RL_pu; rfl; exact PuI) | (apply RD_Q; rfl; rfl; decide +kernel; rfl; rfl; exact QyI) | refine walk1 ?_ | (refine jn ?_; (try intro F); (apply Zae; first | exact PuI | exact PuA); first | refine ⟨_, EndsA, QFI, ?_⟩ | refine fin ?_))
  refine Zag rfl (fun h3 => ?_) (fun h3 => ?_)
  ·repeat refine ZdM ?_
   exact ret_1 _ [] (.tmp rfl) .nil ⟨by simp at h3; simp [← hi, h3], rfl⟩
  repeat refine ZdM ?_
  simp at h3
  exact ⟨k + 1, by omega, ⟨by omega, by rw [← hi]; simp [h3]⟩, SFA, SOA⟩
 simp only [decide_eq_false_iff_not, Int.ofNat_lt] at hc
 repeat refine ZdM ?_
 exact ret_1 _ [] (.tmp rfl) .nil ⟨by rw [← hi, dec_nil (by omega) (by omega)], rfl⟩
theorem checkFn_spec (r : Zaa) (nm : ByteArray) (ad : Addr) (w : World) (h : w.cell? ad = some (.string nm)) :
  Does Tryz.prog 78 [.agg r.enc.toArray, .pointer (some ad)] w (fun v O => v = .bool (decide (r.name = nm)) ∧ O = []) := by
 refine Zab Tryz.func78 rfl rfl rfl rfl ?_
 repeat (first | (apply RL_pu; rfl; (apply Pu_loadO1; rfl; exact h)) | (refine js ?_; (refine bx ?_; intro bk)) | refine walk1 ?_)
 exact rtA
theorem Zdq (A : Option Addr) (c : Nat) (l : List Zaa) (f : FuncId) [Body Tryz.prog f] (us cs : List Value) (p : Zaa → Bool) (w : World) (hA : RdSl w A c Zaa.enc 11 l)
  (hf : ∀ r w', Bel w.heap.size w w' → Does Tryz.prog f (us ++ [.agg (Zaa.enc r).toArray] ++ cs) w' (fun v O => v = .bool (p r) ∧ O = [])) :
  Does Tryz.prog 77 [.slice A l.length c, .func (.func f) us.toArray cs.toArray] w (fun v O => v = .int .i64 (ZbH p l 0) ∧ O = []) := by
 have hs1 := hA.le
 have hs2 := hA.cap
 unfold maxLen at hs2
 generalize hres : ZbH p l 0 = res
 refine Zab Tryz.func77 rfl rfl rfl rfl ?_
 repeat (first | refine walk ?_)
 refine Zal [(0, _), (1, _), (4, _), (7, _)] _ (fun k : Nat => [(8, .int .i64 k)]) (fun _ => []) (fun k => k ≤ l.length ∧ ZbH p (l.drop k) k = res) (fun k => l.length - k) 0 ⟨rfl, rfl, rfl, rfl, rfl, trivial⟩ (.refl _) ⟨by omega, by simpa using hres⟩ ?_
 rintro k ⟨hk, hi⟩
 repeat (first | refine walk ?_)
 refine Zag rfl (fun hc => ?_) (fun hc => ?_)
 ·simp only [decide_eq_true_eq, Int.ofNat_lt] at hc
  obtain ⟨hna, hca⟩ := hA.rd k _ (List.getElem?_eq_getElem hc)
  have hnb := hna
  have hcb := hca
  rw [Zai hc, ZbH] at hi
  generalize l[k] = r at *
  repeat (first | (apply RL_pu; rfl; exact PuI) | (refine js ?_; (refine callV (fun w' hw _ => hf r w' hw) ?_)) | refine walk1 ?_)
  refine Zag rfl (fun h3 => ?_) (fun h3 => ?_)
  ·repeat (first | refine walk ?_)
   rw [if_pos h3] at hi
   exact ret_1 _ [] (.tmp rfl) .nil ⟨by rw [← hi], rfl⟩
  repeat (first | refine walk ?_)
  rw [h3] at hi
  exact ⟨k + 1, by omega, ⟨by omega, hi⟩, SFA, SOA⟩
 simp only [decide_eq_false_iff_not, Int.ofNat_lt] at hc
 repeat (first | refine walk ?_)
 exact ret_1 _ [] (.tmp rfl) .nil ⟨by rw [← hi, List.drop_eq_nil_of_le (by omega)]; rfl, rfl⟩
def ofB (l : List Zaa) (x : ByteArray) : List Zaa := l.filter fun r => decide (r.name = x)
def NewSl {α : Type} (e sz : Nat) (enc : α → List Value) (l : List α) (v : Value) (O : List It) : Prop := ∃ A c, v = .slice A l.length c ∧ O = [.row (.slice A l.length c) e sz l.length (l.flatMap enc)]
def Za0 : List Zaa → List ByteArray → List ByteArray
 | [], acc => acc
 | r :: l, acc => if memB r.name acc then Za0 l acc else Za0 l (acc ++ [r.name])
theorem memB_snoc (x y : ByteArray) : ∀ l : List ByteArray, memB x (l ++ [y]) = (memB x l || decide (y = x))
 | [] => by simp [memB]
 | z :: l => by simp [memB, memB_snoc x y l, Bool.or_assoc]
theorem cloneR_spec (A : Option Addr) (c : Nat) (x : List Zaa) (w : World) (hA : RdSl w A c Zaa.enc 11 x) (hn : x.length ≤ 1000000) :
  Does Tryz.prog 38 [.slice A x.length c] w (NewSl 118 11 Zaa.enc x) := by
 refine Zab Tryz.func38 rfl rfl rfl rfl ?_
 repeat (first | (refine js ?_; (refine bx ?_; intro bk)) | refine walk ?_)
 refine Zag rfl (fun h1 => ?_) (fun h1 => ?_)
 ·obtain rfl := hA.none h1
  refine Zcd 118 11 ?_
  repeat (first | (refine js ?_; (refine bx ?_; intro bk)) | refine walk ?_)
  exact ret_1 _ [.row (.slice none 0 0) 118 11 0 []] (.tmp rfl) SOA ⟨none, 0, rfl, rfl⟩
 repeat (first | (refine js ?_; (first | (apply ZbW; rfl; rfl; (intro A' c'; (focus repeat' constructor)); (intro w' hw _; exact (hA.up hw).rd.raw Zaa.len (by decide)); exact ZaF Zaa.len x; exact Zby oneR x; (simp only [maxLen]; omega); omega; intro A' c' hc1 hc2 hc3) | (refine bx ?_; intro bk))) | refine walk ?_)
 exact ret_1 _ _ (.tmp rfl) (.refl _) ⟨A', c', rfl, rfl⟩
theorem cloneS_spec (A : Option Addr) (c : Nat) (x : List ByteArray) (w : World) (hA : RdSl w A c Zau 1 x) (hn : x.length ≤ 1000000) :
  Does Tryz.prog 40 [.slice A x.length c] w (NewSl 9 1 Zau x) := by
 refine Zab Tryz.func40 rfl rfl rfl rfl ?_
 repeat (first | (refine js ?_; (refine bx ?_; intro bk)) | refine walk ?_)
 refine Zag rfl (fun h1 => ?_) (fun h1 => ?_)
 ·obtain rfl := hA.none h1
  refine Zcd 9 1 ?_
  repeat (first | (refine js ?_; (refine bx ?_; intro bk)) | refine walk ?_)
  exact ret_1 _ [.row (.slice none 0 0) 9 1 0 []] (.tmp rfl) SOA ⟨none, 0, rfl, rfl⟩
 repeat (first | (refine js ?_; (first | (apply ZbW; rfl; rfl; (intro A' c'; (focus repeat' constructor)); (intro w' hw _; exact (hA.up hw).rd.raw Zau.len (by decide)); exact ZaF Zau.len x; exact Zby oneS x; (simp only [maxLen]; omega); omega; intro A' c' hc1 hc2 hc3) | (refine bx ?_; intro bk))) | refine walk ?_)
 exact ret_1 _ _ (.tmp rfl) (.refl _) ⟨A', c', rfl, rfl⟩
theorem cloneE_spec (A : Option Addr) (c : Nat) (x : List DEra) (w : World) (hA : RdSl w A c DEra.enc 13 x) (hn : x.length ≤ 1000000) :
  Does Tryz.prog 43 [.slice A x.length c] w (NewSl 74 13 DEra.enc x) := by
 refine Zab Tryz.func43 rfl rfl rfl rfl ?_
 repeat (first | (refine js ?_; (refine bx ?_; intro bk)) | refine walk ?_)
 refine Zag rfl (fun h1 => ?_) (fun h1 => ?_)
 ·obtain rfl := hA.none h1
  refine Zcd 74 13 ?_
  repeat (first | (refine js ?_; (refine bx ?_; intro bk)) | refine walk ?_)
  exact ret_1 _ [.row (.slice none 0 0) 74 13 0 []] (.tmp rfl) SOA ⟨none, 0, rfl, rfl⟩
 repeat (first | (refine js ?_; (first | (apply ZbW; rfl; rfl; (intro A' c'; (focus repeat' constructor)); (intro w' hw _; exact (hA.up hw).rd.raw DEra.len (by decide)); exact ZaF DEra.len x; exact Zby oneE x; (simp only [maxLen]; omega); omega; intro A' c' hc1 hc2 hc3) | (refine bx ?_; intro bk))) | refine walk ?_)
 exact ret_1 _ _ (.tmp rfl) (.refl _) ⟨A', c', rfl, rfl⟩
theorem Zcz (k : ByteArray) (v : Value) (x : ByteArray) : ∀ m : List (ByteArray × Value), mget (mset m k v) x = if x = k then some v else mget m x
 | [] => by simp [mset, mget]
 | (y, u) :: r => by
  simp only [mset]
  split
  ·rename_i h; subst h; simp only [mget]; split <;> simp_all
  ·rename_i h
   simp only [mget, Zcz k v x r]
   split
   ·rename_i h2; subst h2; rw [if_neg (fun e => h e.symm)]
   ·rfl
def MpB (m : List (ByteArray × Value)) (l : List ByteArray) : Prop := ∀ x, (mget m x).getD (.bool false) = .bool (memB x l)
theorem MpB.set {m : List (ByteArray × Value)} {l : List ByteArray} (h : MpB m l) (y : ByteArray) : MpB (mset m y (.bool true)) (l ++ [y]) := fun x => by
 rw [Zcz, memB_snoc]
 by_cases e : x = y
 ·subst e; simp
 ·rw [if_neg e, h x]; simp [show ¬ y = x from fun h => e h.symm]
theorem MpB.nil : MpB [] [] := fun _ => rfl
structure MG (α : Type) where
 k : Nat
 A : Option Addr
 c : Nat
 m : Nat
 xs : List Value
 acc : List α
 mp : List (ByteArray × Value)
theorem names_spec (Ar Az Al As : Option Addr) (cr cz cl cs : Nat) (a : Zaf) (w : World) (hA : Zao w Ar Az Al As cr cz cl cs a) (hn : a.rules.length ≤ 1000000) :
  Does Tryz.prog 75 [srcV Ar Az Al As cr cz cl cs a] w (NewSl 9 1 Zau (Za0 a.rules [])) := by
 generalize hres : Za0 a.rules [] = res
 refine Zab Tryz.func75 rfl rfl rfl rfl ?_
 repeat (first | (refine js ?_; (refine bx ?_; intro bk)) | refine walk ?_)
 refine Zcd 9 1 ?_
 refine Zal [(3, _), (9, _), (10, _)] [] (fun g : MG ByteArray => [(4, .slice g.A g.m g.c), (11, .int .i64 g.k)]) (fun g => [.row (.slice g.A g.m g.c) 9 1 g.m g.xs, .mp _ g.mp]) (fun g => g.k ≤ a.rules.length ∧ g.m = g.acc.length ∧ g.xs = g.acc.flatMap Zau ∧ g.m ≤ g.k ∧ MpB g.mp g.acc ∧ Za0 (a.rules.drop g.k) g.acc = res) (fun g => a.rules.length - g.k) ⟨0, none, 0, 0, [], [], []⟩ ⟨rfl, rfl, rfl, rfl, rfl, trivial⟩ SOA ⟨by simp, rfl, rfl, Nat.le_refl _, .nil, by simpa using hres⟩ ?_
 rintro ⟨k, A, c, m, xs, acc, mp⟩ ⟨hk, hm, hx, hmk, hp, hi⟩
 dsimp only at hk hm hx hmk hp hi ⊢
 repeat (first | (refine js ?_; (refine bx ?_; intro bk)) | refine walk ?_)
 refine Zag rfl (fun hc => ?_) (fun hc => ?_)
 ·simp only [decide_eq_true_eq, Int.ofNat_lt] at hc
  obtain ⟨hna, hca⟩ := hA.r.rd k _ (List.getElem?_eq_getElem hc)
  have hnb := hna
  have hcb := hca
  rw [Zai hc, Za0] at hi
  generalize a.rules[k] = r at *
  repeat (first | (apply RL_pu; rfl; (first | exact PuI | (apply ZcT; rfl; rfl; (focus repeat' constructor); exact hp _))) | (refine js ?_; (refine bx ?_; intro bk)) | refine walk1 ?_)
  refine Zag rfl (fun h3 => ?_) (fun h3 => ?_)
  ·simp only [Bool.not_eq_true'] at h3
   rw [h3] at hi
   repeat (first | (apply RL_pu; rfl; exact PuI) | (refine js ?_; (first | (apply Zaq; rfl; rfl; (intro A' c'; (focus repeat' constructor)); (intro w' _ hO; exact Za1 (hO.of (by repeat' constructor))); rfl; rfl; (simp only [maxLen]; omega); omega; intro A' c' hc1 hc2 hc3) | (refine bx ?_; intro bk))) | refine walk1 ?_)
   exact ⟨⟨k + 1, A', c', m + 1, xs ++ Zau r.name, acc ++ [r.name], mset mp r.name (.bool true)⟩, OA, ⟨OA, by simp [hm], by rw [hx]; exact Zb9 acc r.name, OA, hp.set _, by rw [← hi]; simp⟩, SFA, SOA⟩
  simp only [Bool.not_eq_false'] at h3
  rw [h3] at hi
  repeat (first | (refine js ?_; (refine bx ?_; intro bk)) | refine walk ?_)
  exact ⟨⟨k + 1, A, c, m, xs, acc, mp⟩, OA, ⟨OA, hm, hx, OA, hp, by rw [← hi]; simp⟩, SFA, SOA⟩
 simp only [decide_eq_false_iff_not, Int.ofNat_lt] at hc
 rw [List.drop_eq_nil_of_le (by omega), Za0] at hi
 subst hi
 repeat (first | (refine js ?_; (refine bx ?_; intro bk)) | refine walk ?_)
 exact ret_1 _ [.row (.slice A acc.length c) 9 1 acc.length (acc.flatMap Zau)] (.tmp rfl) (by subst hm hx; exact SOA) ⟨A, c, by rw [hm], rfl⟩
def takenL (a : Zaf) : List ByteArray := a.zones.map (·.name) ++ a.links.map (·.name)
def NewMp (l : List ByteArray) (v : Value) (O : List It) : Prop := ∃ b m, v = .map (some b) ∧ O = [.mp b m] ∧ MpB m l
structure MG2 where
 k : Nat
 acc : List ByteArray
 mp : List (ByteArray × Value)
theorem mnames_spec (Ar Az Al As : Option Addr) (cr cz cl cs : Nat) (a : Zaf) (w : World) (hA : Zao w Ar Az Al As cr cz cl cs a) (hn : a.zones.length ≤ 1000000) (hn2 : a.links.length ≤ 1000000) :
  Does Tryz.prog 79 [srcV Ar Az Al As cr cz cl cs a] w (NewMp (takenL a)) := by
 refine Zab Tryz.func79 rfl rfl rfl rfl ?_
 repeat (first | (refine js ?_; (refine bx ?_; intro bk)) | refine walk ?_)
 refine Zal [(1, _), (3, _), (10, _), (11, _)] [_] (fun g : MG2 => [(12, .int .i64 g.k)]) (fun g => [.mp _ g.mp]) (fun g => g.k ≤ a.zones.length ∧ MpB g.mp g.acc ∧ g.acc ++ (a.zones.drop g.k).map (·.name) = a.zones.map (·.name)) (fun g => a.zones.length - g.k) ⟨0, [], []⟩ ⟨rfl, rfl, rfl, rfl, rfl, trivial⟩ (by apply SubO.cons; exact .here; exact .cons .here .nil) ⟨by simp, .nil, by simp⟩ ?_
 rintro ⟨k, acc, mp⟩ ⟨hk, hp, hi⟩
 dsimp only at hk hp hi ⊢
 repeat (first | (refine js ?_; (refine bx ?_; intro bk)) | refine walk ?_)
 refine Zag rfl (fun hc => ?_) (fun hc => ?_)
 ·simp only [decide_eq_true_eq, Int.ofNat_lt] at hc
  obtain ⟨hna, cs1, ⟨Ae, ce, _, rfl⟩, hca⟩ := hA.z k _ (List.getElem?_eq_getElem hc)
  have hnb := hna
  have hcb := hca
  rw [Zai hc, List.map_cons] at hi
  generalize a.zones[k] = r at *
  repeat (first | (apply RL_pu; rfl; exact PuI) | (refine js ?_; (refine bx ?_; intro bk)) | refine walk1 ?_)
  exact ⟨⟨k + 1, acc ++ [r.name], mset mp r.name (.bool true)⟩, OA, ⟨OA, hp.set _, by rw [← hi]; simp⟩, SFA, SOA⟩
 simp only [decide_eq_false_iff_not, Int.ofNat_lt] at hc
 rw [List.drop_eq_nil_of_le (by omega), List.map_nil, List.append_nil] at hi
 repeat (first | (refine js ?_; (refine bx ?_; intro bk)) | refine walk ?_)
 refine Zal [(1, _), (3, _), (21, _), (22, _)] [_] (fun g : MG2 => [(23, .int .i64 g.k)]) (fun g => [.mp _ g.mp]) (fun g => g.k ≤ a.links.length ∧ MpB g.mp g.acc ∧ g.acc ++ (a.links.drop g.k).map (·.name) = takenL a) (fun g => a.links.length - g.k) ⟨0, acc, mp⟩ ⟨rfl, rfl, rfl, rfl, rfl, trivial⟩ (by apply SubO.cons; exact .here; exact .cons .here .nil) ⟨by simp, hp, by rw [hi]; simp [takenL]⟩ ?_
 clear hk hp hi hc
 rintro ⟨k, acc, mp⟩ ⟨hk, hp, hi⟩
 dsimp only at hk hp hi ⊢
 repeat (first | (refine js ?_; (refine bx ?_; intro bk)) | refine walk ?_)
 refine Zag rfl (fun hc => ?_) (fun hc => ?_)
 ·simp only [decide_eq_true_eq, Int.ofNat_lt] at hc
  obtain ⟨hna, hca⟩ := hA.l.rd k _ (List.getElem?_eq_getElem hc)
  have hnb := hna
  have hcb := hca
  rw [Zai hc, List.map_cons] at hi
  generalize a.links[k] = r at *
  repeat (first | (apply RL_pu; rfl; exact PuI) | (refine js ?_; (refine bx ?_; intro bk)) | refine walk1 ?_)
  exact ⟨⟨k + 1, acc ++ [r.name], mset mp r.name (.bool true)⟩, OA, ⟨OA, hp.set _, by rw [← hi]; simp⟩, SFA, SOA⟩
 simp only [decide_eq_false_iff_not, Int.ofNat_lt] at hc
 rw [List.drop_eq_nil_of_le (by omega), List.map_nil, List.append_nil] at hi
 repeat (first | (refine js ?_; (refine bx ?_; intro bk)) | refine walk ?_)
 exact ret_1 _ [.mp _ mp] (.tmp rfl) SOA ⟨_, mp, rfl, rfl, hi ▸ hp⟩
structure Zbq where
 name : ByteArray
 rs : List Zaa
 A : Option Addr
 c : Nat
 m : Nat
 xs : List Value
def Zbq.v (g : Zbq) : Value := .slice g.A g.m g.c
def Zbq.row (g : Zbq) : It := .row (.slice g.A g.m g.c) 118 11 g.m g.xs
def fnd : List Zbq → ByteArray → Option Zbq
 | [], _ => none
 | g :: G, x => if g.name = x then some g else fnd G x
def remG : List Zbq → ByteArray → List Zbq
 | [], _ => []
 | g :: G, x => if g.name = x then G else g :: remG G x
theorem fnd_mem (x : ByteArray) (g : Zbq) : ∀ G, fnd G x = some g → g ∈ G
 | [], h => by simp [fnd] at h
 | y :: G, h => by
  simp only [fnd] at h
  split at h
  ·simp at h; simp [h]
  ·exact List.mem_cons_of_mem _ (fnd_mem x g G h)
theorem remG_none (x : ByteArray) : ∀ G, fnd G x = none → remG G x = G
 | [], _ => rfl
 | y :: G, h => by
  simp only [fnd] at h
  split at h
  ·cases h
  ·rename_i hn; rw [remG, if_neg hn, remG_none x G h]
theorem remG_perm (x : ByteArray) (g : Zbq) : ∀ G, fnd G x = some g → (G.map Zbq.row).Perm (g.row :: (remG G x).map Zbq.row)
 | [], h => by simp [fnd] at h
 | y :: G, h => by
  simp only [fnd] at h
  split at h
  ·rename_i hn
   simp at h; subst h
   rw [remG, if_pos hn]; exact .refl _
  ·rename_i hn
   rw [remG, if_neg hn]
   exact (List.Perm.cons _ (remG_perm x g G h)).trans (.swap _ _ _)
theorem fnd_remG (x y : ByteArray) (h : y ≠ x) : ∀ G, fnd (remG G x) y = fnd G y
 | [] => rfl
 | g :: G => by
  simp only [remG]
  split
  ·rename_i hn
   rw [fnd, if_neg (fun e => h (e.symm.trans hn))]
  ·simp only [fnd, fnd_remG x y h G]
def SetsG (mp : List (ByteArray × Value)) (G : List Zbq) (rs : List Zaa) : Prop :=
 ∀ x, match fnd G x with
  | none => mget mp x = none ∧ ofB rs x = []
  | some g => mget mp x = some g.v ∧ g.rs = ofB rs x ∧ g.rs ≠ [] ∧ g.m = g.rs.length ∧ g.xs = g.rs.flatMap Zaa.enc
theorem ofB_snoc (rs : List Zaa) (r : Zaa) (x : ByteArray) : ofB (rs ++ [r]) x = ofB rs x ++ if r.name = x then [r] else [] := by
 simp only [ofB, List.filter_append, List.filter_cons, List.filter_nil, decide_eq_true_eq]
theorem SetsG.step {mp : List (ByteArray × Value)} {G : List Zbq} {rs : List Zaa} (h : SetsG mp G rs) (r : Zaa) (A : Option Addr) (c m : Nat) (xs : List Value) (hm : m = (ofB rs r.name).length) (hx : xs = (ofB rs r.name).flatMap Zaa.enc) :
  SetsG (mset mp r.name (.slice A (m + 1) c)) (⟨r.name, ofB rs r.name ++ [r], A, c, m + 1, xs ++ r.enc⟩ :: remG G r.name) (rs ++ [r]) := fun x => by
 by_cases e : r.name = x
 ·subst e
  rw [fnd, if_pos rfl, Zcz, if_pos rfl, ofB_snoc, if_pos rfl]
  exact ⟨rfl, rfl, by simp, by simp [hm], by rw [hx]; exact Zb9 _ r⟩
 ·have e' : x ≠ r.name := fun h => e h.symm
  simp only [fnd, if_neg e, fnd_remG r.name x e', Zcz, if_neg e', ofB_snoc, List.append_nil]
  exact h x
theorem SetsG.len {mp : List (ByteArray × Value)} {G : List Zbq} {rs : List Zaa} (_ : SetsG mp G rs) (x : ByteArray) : (ofB rs x).length ≤ rs.length := List.length_filter_le _ _
theorem SetsG.front {mp : List (ByteArray × Value)} {G : List Zbq} {rs : List Zaa} (h : SetsG mp G rs) (x : ByteArray) :
  ∃ A c m xs, m = (ofB rs x).length ∧ xs = (ofB rs x).flatMap Zaa.enc ∧ (mget mp x).getD (.slice none 0 0) = .slice A m c ∧ (SubO (.row (.slice A m c) 118 11 m xs :: (remG G x).map Zbq.row) (.row (.slice none 0 0) 118 11 0 [] :: G.map Zbq.row)) := by
 have := h x
 cases hf : fnd G x with
 | none =>
  rw [hf] at this
  refine ⟨none, 0, 0, [], by rw [this.2]; rfl, by rw [this.2]; rfl, by rw [this.1]; rfl, ?_⟩
  rw [remG_none x G hf]
  exact .refl _
 | some g =>
  rw [hf] at this
  obtain ⟨h1, h2, h3, h4, h5⟩ := this
  refine ⟨g.A, g.c, g.m, g.xs, by rw [h4, h2], by rw [h5, h2], by rw [h1]; rfl, .drop ?_⟩
  exact SubO.ofPerm (R := []) (by rw [List.append_nil]; exact remG_perm x g G hf)
def SetsM (m : List (ByteArray × Value)) (rs : List Zaa) : Prop :=
 ∀ x, match mget m x with
  | none => ofB rs x = []
  | some v => ofB rs x ≠ [] ∧ ∃ A c, v = .slice A (ofB rs x).length c
def SetsAt (m : List (ByteArray × Value)) (rs : List Zaa) (w : World) : Prop :=
 ∀ x A n c, mget m x = some (.slice A n c) → RdSl w A c Zaa.enc 11 (ofB rs x)
def NewSets (rs : List Zaa) (v : Value) (O : List It) : Prop := ∃ b m S, v = .map (some b) ∧ O = [.fact S (SetsAt m rs), .mp b m] ∧ SetsM m rs
structure SG where
 k : Nat
 G : List Zbq
 mp : List (ByteArray × Value)
theorem PuSets0 {G : Prop} (h : G := by (first | exact PuI | (apply ZcT; rfl; rfl; (focus repeat' constructor); exact hg))) : G := h
theorem QySets0 {G : Prop} (h : G := by first | (apply Qy_y; rfl; exact PuSets0) | exact QyA) : G := h
theorem QFSets0 {G : Prop} (h : G := by repeat (first | exact QF.nil | (apply QF.mk; rfl; rfl; decide +kernel; exact QySets0))) : G := h
theorem sets_spec (Ar Az Al As : Option Addr) (cr cz cl cs : Nat) (a : Zaf) (w : World) (hA : Zao w Ar Az Al As cr cz cl cs a) (hn : a.rules.length ≤ 1000000) :
  Does Tryz.prog 41 [srcV Ar Az Al As cr cz cl cs a] w (NewSets a.rules) := by
 refine Zab Tryz.func41 rfl rfl rfl rfl ?_
 repeat (first | refine walk ?_ | (refine jn ?_; (try intro F); (first | (refine bx ?_; intro bk) | (refine stA ?_) | (apply Zae; exact PuA)); refine fin ?_) | (apply RD_W; rfl; intro bk))
 refine Zal [(3, _), (8, _), (9, _)] [] (fun g : SG => [(10, .int .i64 g.k)]) (fun g => .mp _ g.mp :: g.G.map Zbq.row) (fun g => g.k ≤ a.rules.length ∧ SetsG g.mp g.G (a.rules.take g.k)) (fun g => a.rules.length - g.k) ⟨0, [], []⟩ ⟨rfl, rfl, rfl, rfl, trivial⟩ (.cons .here .nil) ⟨by simp, fun x => ⟨rfl, by simp [ofB]⟩⟩ ?_
 rintro ⟨k, G, mp⟩ ⟨hk, hp⟩
 dsimp only at hk hp ⊢
 rw [List.append_nil]
 repeat (first | refine walk ?_ | (refine jn ?_; (try intro F); (first | (refine bx ?_; intro bk) | (refine stA ?_) | (apply Zae; exact PuA)); refine fin ?_) | (apply RD_W; rfl; intro bk))
 refine Zag rfl (fun hc => ?_) (fun hc => ?_)
 ·simp only [decide_eq_true_eq, Int.ofNat_lt] at hc
  obtain ⟨hna, hca⟩ := hA.r.rd k _ (List.getElem?_eq_getElem hc)
  have hnb := hna
  have hcb := hca
  have ht := List.take_append_getElem hc
  have hlen := List.length_take_le k a.rules
  generalize a.rules[k] = r at *
  obtain ⟨A, c, m, xs, hm, hx, hg, hO⟩ := hp.front r.name
  have hs := fun A' c' => hp.step r A' c' m xs hm hx
  have hml := hp.len r.name
  rw [ht] at hs
  refine Zcd 118 11 (W_perm (.row (.slice A m c) 118 11 m xs :: .mp bk mp :: (remG G r.name).map Zbq.row) ?_ ?_)
  ·obtain ⟨R, hR⟩ := hO.perm
   refine SubO.ofPerm (R := R) ?_
   exact ((List.Perm.swap _ _ _).trans (List.Perm.cons _ hR)).trans (List.Perm.swap _ _ _)
  repeat (first | (apply RL_pu; rfl; exact PuSets0) | (apply RD_Q; rfl; rfl; decide +kernel; rfl; rfl; exact QySets0) | refine walk1 ?_ | (refine jn ?_; (try intro F); (first | (apply Zaq; rfl; rfl; (intro A' c'; (focus repeat' constructor)); (intro w' _ hO; exact Za1 (hO.of (by repeat' constructor))); rfl; rfl; (simp only [maxLen]; omega); omega; intro A' c' hc1 hc2 hc3) | (refine bx ?_; intro bk) | (refine stA ?_) | (apply Zae; first | exact PuSets0 | exact PuA)); first | refine ⟨_, EndsA, QFSets0, ?_⟩ | refine fin ?_) | (apply RD_W; rfl; intro bk))
  refine ⟨⟨k + 1, _, _⟩, OA, ⟨OA, hs A' c'⟩, SFA, ?_⟩
  rw [List.append_nil]
  refine .cons (by repeat' constructor) (.cons (by repeat' constructor) ?_)
  repeat (first | exact .refl _ | apply SubO.drop)
 simp only [decide_eq_false_iff_not, Int.ofNat_lt] at hc
 rw [List.take_of_length_le (by omega)] at hp
 refine ZcO (G.map Zbq.row) [.mp _ mp] (SetsAt mp a.rules) (SubO.ofPerm (R := []) (by rw [List.append_nil]; exact (List.perm_append_singleton _ _).symm)) (fun w' hi x A n c hx => ?_) ?_
 ·have := hp x
  cases hf : fnd G x with
  | none =>
   rw [hf, hx] at this
   cases this.1
  | some g =>
   rw [hf] at this
   obtain ⟨h1, h2, h3, h4, h5⟩ := this
   rw [hx] at h1
   have hr := hi g.row (List.mem_map_of_mem (fnd_mem x g G hf))
   simp only [Zbq.v, Option.some.injEq, Value.slice.injEq] at h1
   simp only [Zbq.row, h4, h5] at hr
   rw [h1.1, h1.2.2, ← h2]
   exact Za3 Zaa.len hr
 repeat (first | refine walk ?_ | (refine jn ?_; (try intro F); (first | (refine bx ?_; intro bk) | (refine stA ?_) | (apply Zae; exact PuA)); refine fin ?_) | (apply RD_W; rfl; intro bk))
 refine ret_1 _ _ (.tmp rfl) (.refl _) ⟨_, mp, _, rfl, rfl, fun x => ?_⟩
 have := hp x
 cases hf : fnd G x with
 | none =>
  rw [hf] at this
  rw [this.1]
  exact this.2
 | some g =>
  rw [hf] at this
  obtain ⟨h1, h2, h3, h4, h5⟩ := this
  rw [h1]
  exact ⟨h2 ▸ h3, g.A, g.c, by rw [Zbq.v, h4, h2]⟩
end Go.Proofs.YtpcpmndldgejiaaGreatDoor
namespace Go.Wk
open Go Go.RowKit
theorem walkB1 {G G' : Prop} (k : G') (h : Hold G' → G := by intro k; (first | (apply Go.Wk.RL_pu; rfl; exact Go.Wk.PuA) | (apply Go.Wk.RL_st0; refine Go.Wk.stA ?_) | apply Go.Wk.W_seq | apply Go.Wk.W_region | apply Go.Wk.RL_nil | apply Go.Wk.thenQ_n | apply Go.Wk.W_skip | apply Go.Wk.W_ret | apply Go.Wk.W_exit | apply Go.Wk.thenQ_r | apply Go.Wk.thenQ_e | apply Go.Wk.blockQ_n | apply Go.Wk.blockQ_r | apply Go.Wk.blockQ_hit | (apply Go.Wk.blockQ_miss; rfl) | (apply Go.Wk.W_true; rfl) | (apply Go.Wk.W_false; rfl) | (apply Go.Wk.RL_yes; rfl; rfl; rfl) | (apply Go.Wk.RL_no; rfl; rfl; rfl; rfl; rfl) | (apply Go.Wk.W_draw; rfl; decide +kernel) | apply Go.Wk.RD_done | (apply Go.Wk.RD_Q; rfl; rfl; decide +kernel; rfl; rfl; exact Go.Wk.QyA) | (apply Go.Wk.RD_N; rfl; rfl; decide +kernel; rfl; rfl; rfl) | (apply Go.Wk.RD_A; rfl; rfl; decide +kernel; rfl; rfl; first | exact Go.Wk.Ay_alloc | exact Go.Wk.Ay_buildSlice0 | (apply Go.Wk.Ay_buildSliceC; rfl; rfl; rfl; rfl; exact Go.Wk.NfA) | (apply Go.Wk.Ay_buildSliceNf; rfl; rfl; rfl; exact Go.Wk.NfA))); exact k.out) : G := h ⟨k⟩
theorem walkB {G G' : Prop} (k : G') (h : Hold G' → G := by intro k; refine Go.Wk.walkB1 ?_; (repeat refine Go.Wk.walkB1 ?_); exact k.out) : G := h ⟨k⟩
end Go.Wk
