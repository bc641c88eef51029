/- Parts of the proof. -/
import Derived.Test.YtdlmhmmhdbbliaaGreatDoorW11
set_option maxHeartbeats 4000000
set_option linter.unusedVariables false
set_option linter.unusedSimpArgs false
namespace Go.Wk
open Go Go.RowKit
theorem ZjE {a b m : Nat} {s : ByteArray} (h : ZcU a b m s.data.toList = true) : (a : Int) <= s.size /\ (s.size : Int) <= b := by
 simp only [ZcU, Bool.and_eq_true, decide_eq_true_eq] at h
 have : s.data.toList.length = s.size := rfl
 omega
theorem ext1 (s : ByteArray) : (s.extract 0 1).data.toList = s.data.toList.take 1 := by
 rw [ByteArray.data_extract]; simp
end Go.Wk
namespace Go.Proofs.YtdlmhmmhdbbliaaGreatDoor
open Go Go.RowKit Go.Wk
attribute [local irreducible] W RL Does Zau Zaj retQ Calls Pu Stp RD Qy Ay Zak ZcU
theorem Zo4 {base : Nat} {s : ByteArray} {a b m b1 b2 b3 b4 : Nat} {O : List It} {w : World} (hs : (s.size : Int) <= 9223372036854775807) (hm : m < 256) (hH : Zaw base O w) (hO : SubO (ofO a b m b1 b2 b3 b4) O) :
  Does Tryz.prog 195 ([] ++ [.string s] ++ [.pointer (some ⟨b1, 0, none⟩), .pointer (some ⟨b2, 0, none⟩), .pointer (some ⟨b3, 0, none⟩), .pointer (some ⟨b4, 0, none⟩)]) w (fun v O => ∃ x, ZcU a b m s.data.toList = x /\ v = .bool x /\ O = []) :=
 (Zkx hs hm hH hO).monoO fun v O ⟨h1, h2⟩ => ⟨O, ⟨_, rfl, h1, h2⟩, fun _ _ h => h⟩
theorem Zlc {G : Prop} (h : G := by (apply Zkd; rfl; rfl; decide; exact hsz)) : G := h
theorem ZpE {G : Prop} (h : G := by first | (apply Qy_y; rfl; exact Zlc) | exact QyA) : G := h
theorem ZvN {G : Prop} (h : G := by repeat (first | exact QF.nil | (apply QF.mk; rfl; rfl; decide +kernel; exact ZpE))) : G := h
theorem ZuQ (s : ByteArray) (hs : (s.size : Int) <= 9223372036854775807) (w : World) : Does Tryz.prog 133 [.string s] w (fun v O => v = .bool (setB s) /\ O = []) := by
 have hs1 : ((s.extract 0 1).size : Int) <= 9223372036854775807 := by rw [ByteArray.size_extract]; omega
 refine Zab Tryz.func133 rfl rfl rfl rfl ?_
 repeat (first | refine walk ?_ | (refine jn ?_; (try intro F); (first | (apply Zag (h := fun w' _ _ => ZfT 1 30 15 w'); rfl; rintro v O' ⟨b1, b2, b3, b4, rfl, rfl⟩) | (apply Zaq (f := 195) (us := []) (vs := [.string (s)]) (cs := [.pointer (some ⟨b1, 0, none⟩), .pointer (some ⟨b2, 0, none⟩), .pointer (some ⟨b3, 0, none⟩), .pointer (some ⟨b4, 0, none⟩)]) (h := fun w' _ hH => Zo4 (a := 1) (b := 30) (m := 15) hs (by decide) hH SOA); rfl; rfl; rintro v O' ⟨x1, hx1, rfl, rfl⟩) | (apply Zae; exact PuA)); refine fin ?_))
 refine Zar rfl rfl rfl (fun hc => ?_) (fun hc => ?_)
 ·subst hc
  have hsz := (ZjE hx1).1
  have e : setB s = ZcU 1 1 1 (s.extract 0 1).data.toList := by rw [setB, hx1, ext1]; rfl
  rw [e]
  repeat (first | (apply RL_pu; rfl; exact Zlc) | (apply RD_Q; rfl; rfl; decide +kernel; rfl; rfl; exact ZpE) | refine walk1 ?_ | (refine jn ?_; (try intro F); (first | (apply Zag (h := fun w' _ _ => ZfT 1 1 1 w'); rfl; rintro v O' ⟨b1, b2, b3, b4, rfl, rfl⟩) | (apply Zaq (f := 195) (us := []) (vs := [.string (s.extract 0 1)]) (cs := [.pointer (some ⟨b1, 0, none⟩), .pointer (some ⟨b2, 0, none⟩), .pointer (some ⟨b3, 0, none⟩), .pointer (some ⟨b4, 0, none⟩)]) (h := fun w' _ hH => Zo4 (a := 1) (b := 1) (m := 1) hs1 (by decide) hH SOA); rfl; rfl; rintro v O' ⟨x2, hx2, rfl, rfl⟩) | (apply Zae; first | exact Zlc | exact PuA)); first | refine ⟨_, EndsA, ZvN, ?_⟩ | refine fin ?_))
  exact ret_1 _ [] (.tmp rfl) .nil ⟨by rw [hx2], rfl⟩
 ·subst hc
  have e : setB s = false := by rw [setB, hx1]; rfl
  rw [e]
  repeat (first | refine walk ?_ | (refine jn ?_; (try intro F); (apply Zae; exact PuA); refine fin ?_))
  exact rtA
end Go.Proofs.YtdlmhmmhdbbliaaGreatDoor
namespace Go.Wk
open Go Go.RowKit
def cutI (l : List UInt8) : Option Nat := l.findIdx? (· == 47)
theorem ZiA : ∀ (l acc : List UInt8), Zf9 l acc = match cutI l with | none => [acc ++ l] | some i => (acc ++ l.take i) :: Zf9 (l.drop (i + 1)) []
 | [], acc => by simp [Zf9, cutI]
 | c :: l, acc => by
  rw [Zf9]
  by_cases h : c = 47
  ·subst h
   simp [cutI, List.findIdx?_cons]
  ·rw [if_neg h, ZiA l]
   have hb : (c == 47) = false := by simpa using h
   simp only [cutI, List.findIdx?_cons, hb]
   cases h2 : l.findIdx? (· == 47) with
   | none => simp
   | some i => simp
theorem ZxG {l : List UInt8} {i : Nat} (h : cutI l = some i) : i < l.length := (List.findIdx?_eq_some_iff_findIdx_eq.1 h).1
theorem Zmk (s : ByteArray) : firstIdx s 47 = match cutI s.data.toList with | none => -1 | some i => (i : Int) := by
 unfold firstIdx cutI
 have hsz : s.size = s.data.toList.length := rfl
 have key : ∀ (l : List UInt8) (f : Nat -> UInt8), (∀ i, i < l.length -> f i = l.getD i 0) -> (List.range l.length).find? (fun i => f i == 47) = l.findIdx? (· == 47) := by
  intro l
  induction l with
  | nil => intro f _; rfl
  | cons c l ih =>
   intro f hf
   rw [List.length_cons, List.range_succ_eq_map, List.find?_cons, List.findIdx?_cons]
   have h0 : f 0 = c := by rw [hf 0 (by simp)]; rfl
   rw [h0]
   cases hc : c == 47 with
   | true => rfl
   | false =>
    rw [List.find?_map]
    have := ih (fun i => f (i + 1)) (fun i hi => by rw [hf (i + 1) (by simp; omega)]; rfl)
    simp only [Function.comp_def] at this ⊢
    rw [show (fun x : Nat => f (Nat.succ x) == 47) = fun i => f (i + 1) == 47 from rfl, this]
    cases l.findIdx? (· == 47) <;> rfl
 have hk := key s.data.toList (fun i => s[i]!) (fun i hi => by
  have : i < s.size := hi
  rw [List.getD_eq_getElem?_getD, List.getElem?_eq_getElem hi]
  simp [getElem!_def, this]
  rfl)
 rw [hsz]
 rw [hk]
 cases s.data.toList.findIdx? (· == 47) <;> rfl
end Go.Wk
namespace Go.Proofs.YtdlmhmmhdbbliaaGreatDoor
open Go Go.RowKit Go.Wk
attribute [local irreducible] W RL Does Zau Zaj retQ Calls Pu Stp RD Qy Ay Zak
theorem Zxu (args : Array Value) (w : World) : (callFunc 236 args).run Tryz.prog w = ((Extern.BytealgIndexByte.indexByte args).run Tryz.prog w).andThen fun v w' => .ok (.value v) w' := by
 rw [run_callFunc_extern Tryz.func236 (by kernel_rfl) (by kernel_rfl) (by kernel_rfl) (e := Extern.BytealgIndexByte.indexByte) (by kernel_rfl)]
section
variable {n : Nat} {wr : World} {fr : Fr} {O : List It} {ty : TypeId} {pos : String} {af : Array Edge} {dst : Option Tmp} {g : Option (Nat × Bool)} {Kp : Value -> List It -> Prop}
theorem ZxY {x y : Operand} {ts : Array TypeId} {s : ByteArray} {c : Int} (hx : ev fr x = some (.string s)) (hy : ev fr y = some (.int .u8 c)) (kk : Kp (.int .i64 (firstIdx s c.toNat.toUInt8)) O) :
  Stp Tryz.prog n wr fr O ⟨dst, .call ⟨.value (.func 236), #[x, y], ts⟩, ty, pos, af, g⟩ Kp :=
 Zb0 fun a w hs => by
  refine ⟨_, w, O, ?_, hs.old, hs.own, kk⟩
  have h1 := hs.sim.ev hx
  have h2 := hs.sim.ev hy
  have he : a.eval (.func 236) = .func (.func 236) #[] #[] := rfl
  have hc := Zxu #[.string s, .int .u8 c] w
  rw [run_indexByte_string, Result.andThen_ok] at hc
  simp [execOp, resolve, he, Deferred.ofValue, invoke, hc, h1, h2]
end
theorem Zvm (s : ByteArray) (c : Int) (w : World) : Does Tryz.prog 224 [.string s, .int .u8 c] w (fun v O => v = .int .i64 (firstIdx s c.toNat.toUInt8) /\ O = []) := by
 refine Zab Tryz.func224 rfl rfl rfl rfl ?_
 repeat (first | (refine js ?_; (apply ZxY; rfl; rfl)) | refine walk ?_)
 exact rtA
theorem Zmj (s : ByteArray) (c : UInt8) (h : (⟨#[c]⟩ : ByteArray) = s) : firstIdx s c = 0 := by
 subst h
 have hs : (⟨#[c]⟩ : ByteArray).size = 1 := rfl
 unfold firstIdx
 rw [hs]
 have : (⟨#[c]⟩ : ByteArray)[0]! = c := rfl
 simp [List.range_succ, this]
theorem ZtW {G : Prop} (h : G := by (apply ZhB; rfl; rfl; exact hb)) : G := h
theorem Zvn (s : ByteArray) (c : UInt8) (w : World) : Does Tryz.prog 222 [.string s, .string ⟨#[c]⟩] w (fun v O => v = .int .i64 (firstIdx s c) /\ O = []) := by
 have hu : ((c.toNat : Int)).toNat.toUInt8 = c := by simp
 have hi := fun w' => Zvm s (c.toNat : Int) w'
 rw [hu] at hi
 have hsz : (0 : Int) < ((⟨#[c]⟩ : ByteArray).size : Int) := show (0 : Int) < 1 by decide
 by_cases he : (⟨#[c]⟩ : ByteArray) = s
 ·have hb : decide ((⟨#[c]⟩ : ByteArray) = s) = true := decide_eq_true he
  have h0 := Zmj s c he
  refine Zab Tryz.func222 rfl rfl rfl rfl ?_
  repeat (first | (apply RL_pu; rfl; exact ZtW) | refine walk1 ?_)
  exact ret_1 _ [] (.tmp rfl) .nil ⟨by rw [h0], rfl⟩
 ·have hb : decide ((⟨#[c]⟩ : ByteArray) = s) = false := decide_eq_false he
  refine Zab Tryz.func222 rfl rfl rfl rfl ?_
  repeat (first | (apply RL_pu; rfl; (first | exact ZtW | (apply ZmU; rfl; rfl; decide; exact hsz))) | (refine js ?_; (refine Zac (fun w' _ => hi w') ?_)) | refine walk1 ?_)
  exact rtA
theorem ZnN (s : ByteArray) (c : UInt8) (w : World) : Does Tryz.prog 247 [.string s, .string ⟨#[c]⟩] w (fun v O => v = .int .i64 (firstIdx s c) /\ O = []) := by
 have hi := fun w' => Zvn s c w'
 refine Zab Tryz.func247 rfl rfl rfl rfl ?_
 repeat (first | (refine js ?_; (refine Zac (fun w' _ => hi w') ?_)) | refine walk ?_)
 exact rtA
def itO (b1 b2 b3 : Nat) (s p : ByteArray) : List It := [.blk b1 [.string s] 9, .blk b2 [.string p] 9, .blk b3 [.int .i64 0] 3]
def itV (b1 b2 b3 : Nat) : Value := .func (.func 246) #[] #[.pointer (some ⟨b2, 0, none⟩), .pointer (some ⟨b1, 0, none⟩), .pointer (some ⟨b3, 0, none⟩)]
theorem Zks (s p : ByteArray) (w : World) : Does Tryz.prog 231 [.string s, .string p, .int .i64 0] w (fun v O => ∃ b1 b2 b3, v = itV b1 b2 b3 /\ O = itO b1 b2 b3 s p) := by
 refine Zab Tryz.func231 rfl rfl rfl rfl ?_
 apply W_seq
 apply W_region
 apply RL_st; rfl; (apply Stp_boxNf; rfl; (focus repeat (first | exact Nf.nil | apply Nf.cons)); intro b1)
 apply RL_st; rfl; (apply Stp_boxNf; rfl; (focus repeat (first | exact Nf.nil | apply Nf.cons)); intro b2)
 apply RL_st; rfl; (apply Stp_boxNf; rfl; (focus repeat (first | exact Nf.nil | apply Nf.cons)); intro b3)
 repeat (first | (refine js ?_; (refine bx ?_; intro bk)) | refine walk ?_)
 exact ret_1 _ (itO b1 b2 b3 s p) (.tmp rfl) SOA ⟨b1, b2, b3, rfl, rfl⟩
theorem Zk1 (s p : ByteArray) (w : World) : Does Tryz.prog 215 [.string s, .string p] w (fun v O => ∃ b1 b2 b3, v = itV b1 b2 b3 /\ O = itO b1 b2 b3 s p) := by
 have hi := fun w' => Zks s p w'
 refine Zab Tryz.func215 rfl rfl rfl rfl ?_
 repeat (first | (refine js ?_; (apply Zag (h := fun w' _ _ => hi w'); rfl; rintro v O' ⟨b1, b2, b3, rfl, rfl⟩)) | refine walk ?_)
 exact ret_1 _ (itO b1 b2 b3 s p) (.tmp rfl) SOA ⟨b1, b2, b3, rfl, rfl⟩
end Go.Proofs.YtdlmhmmhdbbliaaGreatDoor
namespace Go.Wk
open Go Go.RowKit
theorem Zfy {P : Program} {n : Nat} {wr : World} {x y : Code} {Q2 : Exit -> Act -> World -> Prop} {fr : Fr} {O : List It} (I : Fr -> List It -> Prop) (h : W P n wr x (fun e fr O => e = .normal /\ I fr O) fr O) (k : ∀ a w fr' O', St n wr fr' O' a w -> I fr' O' -> y.wp P Q2 a w) :
  ∀ a w, St n wr fr O a w -> (Code.seq x y).wp P Q2 a w := by
 intro a w hs
 refine wp_seq (wp_mono (h a w hs) ?_)
 rintro e a' w' ⟨fr', O', hs', rfl, hi⟩
 exact k a' w' fr' O' hs' hi
theorem St.sub {n : Nat} {wr : World} {fr fr' : Fr} {O O' : List It} {a : Act} {w : World} (h : St n wr fr O a w) (hf : Sub fr' fr) (hO : SubO O' O) : St n wr fr' O' a w := ⟨h.sim.sub hf, h.old, h.own.sub hO⟩
end Go.Wk
namespace Go.Proofs.YtdlmhmmhdbbliaaGreatDoor
open Go Go.RowKit Go.Wk
attribute [local irreducible] W RL Does Zau Zaj retQ Calls Pu Stp RD Qy Ay Zak RLI WI
def Asks (l b1 b2 b3 : Nat) (ok : List UInt8 -> Bool) (OC OF : List It) (wr : World) : Prop :=
 ∀ x rest : ByteArray, (x.size : Int) <= 9223372036854775807 -> Ze2 Tryz.prog l (.string x) wr (itO b1 b2 b3 rest ⟨#[47]⟩ ++ OC) fun b O' => b = ok x.data.toList /\ (b = true -> SubO (itO b1 b2 b3 rest ⟨#[47]⟩ ++ OC) O') /\ (b = false -> SubO OF O')
theorem ZpJ {G : Prop} (h : G := by (apply Pu_loadB1; rfl; (focus repeat' constructor); rfl)) : G := h
theorem Zlw (l b1 b2 b3 : Nat) (ok : List UInt8 -> Bool) (OC OF : List It) (wr : World) (hY : Asks l b1 b2 b3 ok OC OF wr) (s : ByteArray) (hs : (s.size : Int) <= 9223372036854775807) :
  Zak Tryz.prog 246 [.func (.yield l) #[] #[], .pointer (some ⟨b2, 0, none⟩), .pointer (some ⟨b1, 0, none⟩), .pointer (some ⟨b3, 0, none⟩)] wr (itO b1 b2 b3 s ⟨#[47]⟩ ++ OC)
   (fun v O' => v = .tuple #[] /\ ((Zf9 s.data.toList []).all ok = true -> SubO OC O') /\ ((Zf9 s.data.toList []).all ok = false -> SubO OF O')) := by
 obtain ⟨res, hres⟩ : ∃ res, (Zf9 s.data.toList []).all ok = res := ⟨_, rfl⟩
 rw [hres]
 have hix := fun (t : ByteArray) w' => ZnN t 47 w'
 unfold itO at *
 simp only [List.cons_append, List.nil_append] at *
 refine Zbz Tryz.func246 rfl rfl rfl rfl ?_
 repeat (first | refine walk ?_)
 refine Zao [(0, .func (.yield l) #[] #[]), (1, .pointer (some ⟨b2, 0, none⟩)), (2, .pointer (some ⟨b1, 0, none⟩)), (3, .pointer (some ⟨b3, 0, none⟩))] [] (fun _ : ByteArray => []) (fun g => .blk b1 [.string g] 9 :: .blk b2 [.string ⟨#[47]⟩] 9 :: .blk b3 [.int .i64 0] 3 :: OC)
  (fun g => (g.size : Int) <= 9223372036854775807 /\ (Zf9 g.data.toList []).all ok = res) (fun g => g.size) s SFA ?_ ⟨hs, hres⟩ ?_
 ·rw [List.append_nil]; exact .refl _
 rintro g ⟨hg, hi⟩
 rw [List.append_nil]
 have hfi := Zmk g
 rw [ZiA] at hi
 cases hc : cutI g.data.toList with
 | none =>
  rw [hc] at hfi hi
  dsimp only at hfi hi
  have hix2 := hix g
  rw [hfi] at hix2
  have hsY := hg
  repeat (first | (apply ZiQ; rfl; rfl; rfl; (intro c h; cases h); rfl; (first | (apply Pu_loadB1; rfl; (focus repeat' constructor); rfl) | (apply Pu_move; rfl)); rfl; rfl; exact hY _ _ hsY; rintro b O' ⟨rfl, hb2, hb3⟩) | (apply RL_pu; rfl; exact ZpJ) | (refine js ?_; (refine Zac (fun w' _ => hix2 w') ?_)) | refine walk1 ?_)
  refine Zbm ?_
  rw [List.nil_append, List.all_cons, List.all_nil, Bool.and_true] at hi
  refine Zxg O' (.refl _) ⟨rfl, fun h => ?_, fun h => hb3 (by rw [hi]; exact h)⟩
  exact (SubO.trans (SubO.right (itO b1 b2 b3 g ⟨#[47]⟩) OC) (hb2 (by rw [hi]; exact h)))
 | some i =>
  rw [hc] at hfi hi
  dsimp only at hfi hi
  have hix2 := hix g
  rw [hfi] at hix2
  have hlt := ZxG hc
  have hsz : g.size = g.data.toList.length := rfl
  have hx0 : (g.extract 0 i).data.toList = g.data.toList.take i := by rw [ByteArray.data_extract]; simp
  have hx1 : (g.extract (i + 1) g.size).data.toList = g.data.toList.drop (i + 1) := by
   rw [ByteArray.data_extract]
   simp only [Array.toList_extract, List.extract_eq_take_drop]
   exact List.take_of_length_le (by rw [List.length_drop]; omega)
  have hi0 : (0 : Int) <= (i : Int) := Int.natCast_nonneg i
  have hi1 : (i : Int) < (g.data.toList.length : Int) := Int.ofNat_lt.2 hlt
  have hsY : ((g.extract 0 i).size : Int) <= 9223372036854775807 := by rw [ByteArray.size_extract]; omega
  repeat (first | (apply ZiQ; rfl; rfl; rfl; (intro c h; cases h); rfl; (first | (apply Pu_loadB1; rfl; (focus repeat' constructor); rfl) | (apply Pu_move; rfl)); rfl; rfl; exact hY _ _ hsY; rintro b O' ⟨rfl, hb2, hb3⟩) | (apply RL_pu; rfl; (apply Zkd; rfl; rfl; omega; omega)) | (refine js ?_; (refine Zac (fun w' _ => hix2 w') ?_)) | refine walk1 ?_)
  rw [List.nil_append, List.all_cons] at hi
  have hx2 : (g.extract 0 (Int.toNat ((i : Int) + 0))).data.toList = g.data.toList.take i := by rw [Int.add_zero]; exact hx0
  rw [hx2] at hb2 hb3
  apply Zdb (.inl rfl); rfl; (intro c h; cases h); (apply Pu_not; rfl)
  refine Zbm ?_
  apply thenQ_n
  rw [hx2]
  refine Zaf rfl (fun h => ?_) (fun h => ?_)
  ·simp only [Bool.not_eq_true'] at h
   rw [h, Bool.false_and] at hi
   subst hi
   repeat (first | refine walk ?_)
   exact Zyq O' (.refl _) ⟨rfl, fun h2 => (by cases h2), fun _ => hb3 h⟩
  ·simp only [Bool.not_eq_false'] at h
   rw [h, Bool.true_and] at hi
   have hlen : (((⟨#[47]⟩ : ByteArray).size : Nat) : Int) = 1 := rfl
   have htn : ((i : Int) + (((⟨#[47]⟩ : ByteArray).size : Nat) : Int)).toNat = i + 1 := by rw [hlen]; omega
   refine Zcz (fr' := [(7, .int .i64 i), (0, .func (.yield l) #[] #[]), (1, .pointer (some ⟨b2, 0, none⟩)), (2, .pointer (some ⟨b1, 0, none⟩)), (3, .pointer (some ⟨b3, 0, none⟩))]) (O' := .blk b1 [.string g] 9 :: .blk b2 [.string ⟨#[47]⟩] 9 :: .blk b3 [.int .i64 0] 3 :: OC) SFA (hb2 h) ?_
   repeat (first | (apply RL_pu; rfl; (apply Zrd; rfl; rfl; omega; omega)) | refine walk1 ?_)
   refine ⟨g.extract ((i : Int) + (((⟨#[47]⟩ : ByteArray).size : Nat) : Int)).toNat g.size, ?_, ⟨?_, ?_⟩, SFA, ?_⟩
   ·rw [htn, ByteArray.size_extract]; omega
   ·rw [htn, ByteArray.size_extract]; omega
   ·rw [htn, hx1]; exact hi
   ·rw [List.append_nil]; exact .refl _
def okP (s : ByteArray) (l : List UInt8) : Bool := decide (s.size <= 60) && Zu0 l
theorem Zxm (s : ByteArray) : (Zf9 s.data.toList []).all (okP s) = Zgt s := by
 have hne : Zf9 s.data.toList [] ≠ [] := by
  rw [ZiA]; split <;> simp
 unfold Zgt okP
 by_cases h : s.size <= 60
 ·simp [h]
 ·cases hc : Zf9 s.data.toList [] with
  | nil => exact absurd hc hne
  | cons x l => simp [h]
theorem ZuZ (l : List UInt8) : Zu0 l = (ZcU 1 14 31 l && !(match l with | c :: _ => decide (c = 46) || decide (c = 45) | [] => false)) := rfl
def Zzk (s : ByteArray) (w : World) : Ending -> World -> Prop := fun e w' => ∃ v O, e = .returned v /\ Bel w.heap.size w w' /\ Zaw w.heap.size O w' /\ v = .bool (Zgt s) /\ O = []
theorem ZoM {n : Nat} {wr : World} {fr : Fr} {O : List It} {a : Act} {w : World} {D : Nat} (hs : St n wr fr (Zc6 D :: O) a w) : St n wr fr O a (w.putObj D (.deferred none)) := by
 have hin := hs.own.inb _ List.mem_cons_self D rfl
 refine ⟨hs.sim, hs.old.trans ⟨⟨rfl, rfl, rfl, by rw [ZdM]; exact Nat.le_refl _, fun i hi => World.putObj_heap_other (by omega)⟩⟩, hs.own.tail.congr (by rw [ZdM]; exact Nat.le_refl _) fun b ⟨i, hi, hb⟩ => World.putObj_heap_other fun e => ?_⟩
 exact (List.pairwise_cons.1 hs.own.sep).1 i hi D rfl (e ▸ hb)
theorem Zjj (s : ByteArray) (w : World) {fr : Fr} {O R : List It} {a : Act} {w' : World} {D br : Nat} {b : Bool} (hs : St 28 w fr (Zc6 D :: O) a w') (h2 : Wk.look fr 2 = some (.pointer (some ⟨br, 0, none⟩))) (hp : Pick (.blk br [.bool b] 4) O R) (hb : b = Zgt s) :
  bodyPostM Fence.wide 0 Tryz.prog Tryz.f180 (Zzk s w) .ret (actD (ZgF D) a) w' := by
 have hK := Zc6.at (hs.own.sat _ List.mem_cons_self)
 have hs2 := ZoM hs
 refine ⟨by simp, .inl ⟨_, _, rfl, run_takeDeferred hK, ?_⟩⟩
 refine ⟨.bool b, ?_, _, [], rfl, hs2.old, Zaw.nil _ _, by rw [hb], rfl⟩
 have hc : (w'.putObj D (.deferred none)).cell? ⟨br, 0, none⟩ = some (.bool b) := by
  rw [ZcF (hs2.own.of hp)]; rfl
 have hres : Tryz.f180.results = [ResultVar.cell 2 4].toArray := rfl
 show (results Tryz.f180 a.tmps).run Tryz.prog _ = _
 unfold results
 rw [hres, List.mapM_toArray]
 simp only [Sem.run_bind, Sem.run_map]
 rw [ZcP (P := Tryz.prog) hs2 _ (fun _ => rfl) (fun _ _ => rfl) [ResultVar.cell 2 4] [.bool b] ⟨_, [], rfl, ⟨_, h2, fun w3 hB hH => ?_⟩, rfl⟩]
 ·simp only [Result.andThen_ok, Sem.run_pure]
  rfl
 ·rw [Zej]
  rw [ZcF (hH.of hp)]; rfl
instance : ZeroT Tryz.prog 111 [.nilFunc] := ⟨by kernel_rfl⟩
theorem Zlj (s : ByteArray) (hs : (s.size : Int) <= 9223372036854775807) (w : World) : Does Tryz.prog 180 [.string s] w (fun v O => v = .bool (Zgt s) /\ O = []) := by
 unfold Does
 refine Zrj Tryz.func180 rfl rfl rfl ?_
 intro a0 hst
 -- Zab Tryz.func180
 refine Zfy (fun fr' O' => ∃ bs br, Sub [(1, .pointer (some ⟨bs, 0, none⟩)), (2, .pointer (some ⟨br, 0, none⟩))] fr' /\ SubO [.blk bs [.string s] 9, .blk br [.bool false] 4] O') ?_ ?_ a0 w hst
 ·apply W_region
  apply RL_st; rfl; (apply Stp_boxNf; rfl; (focus repeat' constructor); intro bs)
  apply RL_st; rfl; (apply Stp_alloc; intro br)
  apply RL_nil
  exact ⟨rfl, bs, br, SFA, SOA⟩
 rintro a1 w1 fr1 O1 hs0 ⟨bs, br, hf1, hO1⟩
 have hs1 := hs0.sub hf1 hO1
 clear hf1 hO1 hs0 hst a0 fr1 O1
 refine Zfy (fun fr' O' => ∃ bf b1 b2 b3 b4, Sub [(1, .pointer (some ⟨bs, 0, none⟩)), (2, .pointer (some ⟨br, 0, none⟩)), (3, .pointer (some ⟨bf, 0, none⟩))] fr' /\ SubO (.blk bs [.string s] 9 :: .blk br [.bool false] 4 :: .blk bf [ofV b1 b2 b3 b4] 111 :: ofO 1 14 31 b1 b2 b3 b4) O') ?_ ?_ a1 w1 hs1
 ·repeat (first | (refine js ?_; (first | (apply Zag (h := fun w' _ _ => ZfT 1 14 31 w'); rfl; rintro v O' ⟨b1, b2, b3, b4, rfl, rfl⟩) | (refine bx ?_; intro bk))) | refine walk ?_)
  exact ⟨rfl, _, b1, b2, b3, b4, SFA, SOA⟩
 rintro a2 w2 fr2 O2 hs0 ⟨bf, b1, b2, b3, b4, hf2, hO2⟩
 have hs2 := hs0.sub hf2 hO2
 clear hf2 hO2 hs0 hs1 a1 w1 fr2 O2
 refine wp_seq ?_
 refine Zfy (fun fr' O' => ∃ c1 c2 c3, Sub [(1, .pointer (some ⟨bs, 0, none⟩)), (2, .pointer (some ⟨br, 0, none⟩)), (3, .pointer (some ⟨bf, 0, none⟩)), (7, itV c1 c2 c3)] fr' /\ SubO (itO c1 c2 c3 s ⟨#[47]⟩ ++ (.blk bs [.string s] 9 :: .blk br [.bool false] 4 :: .blk bf [ofV b1 b2 b3 b4] 111 :: ofO 1 14 31 b1 b2 b3 b4)) O') ?_ ?_ a2 w2 hs2
 ·repeat (first | (apply RL_pu; rfl; exact ZpJ) | (refine js ?_; (first | (apply Zag (h := fun w' _ _ => Zk1 s ⟨#[47]⟩ w'); rfl; rintro v O' ⟨c1, c2, c3, rfl, rfl⟩) | (refine bx ?_; intro bk))) | refine walk1 ?_)
  exact ⟨rfl, c1, c2, c3, SFA, .refl _⟩
 rintro a3 w3 fr3 O3 hs0 ⟨c1, c2, c3, hf3, hO3⟩
 have hs3 := hs0.sub hf3 hO3
 clear hf3 hO3 hs0 hs2 a2 w2 fr3 O3
 refine wp_block ?_
 refine ZoX (gf := 246) (lb := [.pointer (some ⟨c2, 0, none⟩), .pointer (some ⟨c1, 0, none⟩), .pointer (some ⟨c3, 0, none⟩)]) (fun jump O2 => SubO [.blk br [.bool false] 4] O2 /\ ((jump = none /\ Zgt s = true) \/ (jump = some .ret /\ Zgt s = false))) hs3 rfl ?_ ?_
 ·intro fn l D
  generalize hr : Zhn fn a3.tmps 8 _ _ D = r
  have hit := Zlw l c1 c2 c3 (okP s) (ZaX l r :: Zc6 D :: .blk bs [.string s] 9 :: .blk br [.bool false] 4 :: .blk bf [ofV b1 b2 b3 b4] 111 :: ofO 1 14 31 b1 b2 b3 b4) (ZaX l { r with state := .done, pending := some .ret } :: Zc6 D :: [.blk br [.bool false] 4]) w ?_ s hs
  ·refine hit.sub (by unfold itO ofO; exact SOA) fun v O' ⟨_, h1, h2⟩ => ?_
   rw [Zxm] at h1 h2
   cases hz : Zgt s with
   | true => exact ⟨none, _, .ready, SubO.trans (by rw [<- hr]; exact .refl _) (h1 hz), by decide, SOA, .inl ⟨rfl, rfl⟩⟩
   | false => exact ⟨some .ret, _, .done, h2 hz, by decide, .refl _, .inr ⟨rfl, rfl⟩⟩
  ·intro x rest hx
   refine Zlk (r := r) (p := 8) (fr := [(1, .pointer (some ⟨bs, 0, none⟩)), (2, .pointer (some ⟨br, 0, none⟩)), (3, .pointer (some ⟨bf, 0, none⟩)), (7, itV c1 c2 c3)]) (a0 := a3) (O1 := itO c1 c2 c3 rest ⟨#[47]⟩ ++ (ZaX l { r with state := .busy } :: Zc6 D :: .blk bs [.string s] 9 :: .blk br [.bool false] 4 :: .blk bf [ofV b1 b2 b3 b4] 111 :: ofO 1 14 31 b1 b2 b3 b4)) (by rw [<- hr]; rfl) (by rw [<- hr]; rfl) (by rw [<- hr]; rfl) hs3.sim rfl (by unfold itO; exact (by repeat' constructor)) (by rw [<- hr]; rfl) ?_
   apply Zdb (Or.inr ⟨_, rfl⟩); rfl; (intro c h; cases h); (apply Pu_assign; rfl)
   refine Zbm ⟨rfl, ?_⟩
   have hbody : ∀ Q fr O, (∀ b : Code, b = r.body -> WI (Fence.wide.inRound l) [] Tryz.prog 28 w b Q fr O) -> WI (Fence.wide.inRound l) [] Tryz.prog 28 w r.body Q fr O := fun Q fr O h => h _ rfl
   refine hbody _ _ _ fun b hb => ?_
   rw [<- hr] at hb
   dsimp only [Zhn] at hb
   subst hb
   unfold itO ofO
   simp only [List.cons_append, List.nil_append]
   refine ZpB (Zgk (ZbL ?_))
   have hsx : (s.size : Int) <= 9223372036854775807 := hs
   by_cases hlong : (60 : Int) < (s.size : Int)
   ·have h60 : decide ((60 : Int) < (s.size : Int)) = true := decide_eq_true hlong
    have hbad : false = okP s x.data.toList := by
     unfold okP; rw [decide_eq_false (by omega), Bool.false_and]
    repeat (first | (apply Zdb (Or.inr ⟨_, rfl⟩); rfl; (intro c h; cases h); (first | (apply Pu_loadB1; rfl; (focus repeat' constructor); rfl) | (apply Pu_lenS; rfl) | (apply ZaM; rfl; rfl; exact h60) | (apply Pu_move; rfl) | (apply Pu_not; rfl) | (apply Pu_pickT; rfl; rfl) | (apply Pu_pickF; rfl; rfl))) | (refine ZiT rfl rfl rfl ?_) | (refine ZmO (Or.inr ⟨_, rfl⟩) rfl rfl rfl rfl rfl ?_) | (refine Zbm ?_))
    refine thenQ_n ?_
    refine Zcc rfl (fun _ => ?_) (fun h => by cases h)
    refine Zgk (ZbL ?_)
    apply Zb1 (Or.inr ⟨_, rfl⟩); (intro d hd; cases hd); (intro c h; cases h); (intro a w hs; exact ZdB a w)
    (apply Stp_storeNf; rfl; rfl; (focus repeat' constructor); (focus repeat (first | exact Nf.nil | apply Nf.cons)); rfl; rfl; rfl; (focus repeat' constructor))
    refine Zbm ?_
    refine thenQ_n ?_
    refine ZiS ?_
    refine blockQ_r ?_
    exact ⟨_, (by repeat' constructor), hbad, fun h => (by cases h), fun _ => SOA⟩
   have h60 : decide ((60 : Int) < (s.size : Int)) = false := decide_eq_false hlong
   have hok : okP s x.data.toList = Zu0 x.data.toList := by
    unfold okP; rw [decide_eq_true (by omega), Bool.true_and]
   have hoc := fun {base : Nat} {O : List It} {w' : World} (hH : Zaw base O w') (hO : SubO (ofO 1 14 31 b1 b2 b3 b4) O) => Zkx (a := 1) (b := 14) (m := 31) hx (by decide) hH hO
   rw [hok, ZuZ]
   cases hn : ZcU 1 14 31 x.data.toList with
   | false =>
    rw [hn] at hoc
    have hbad : false = (false && !(match x.data.toList with | c :: _ => decide (c = 46) || decide (c = 45) | [] => false)) := rfl
    repeat (first | (apply Zdb (Or.inr ⟨_, rfl⟩); rfl; (intro c h; cases h); (first | (apply Pu_loadB1; rfl; (focus repeat' constructor); rfl) | (apply Pu_lenS; rfl) | (apply ZaM; rfl; rfl; exact h60) | (apply Pu_move; rfl) | (apply Pu_not; rfl) | (apply Pu_pickT; rfl; rfl) | (apply Pu_pickF; rfl; rfl))) | (refine ZiT rfl rfl rfl ?_) | (refine ZmO (Or.inr ⟨_, rfl⟩) rfl rfl rfl rfl rfl ?_) | (apply Zb1 (Or.inr ⟨_, rfl⟩); (intro d hd; cases hd; rfl); (intro c h; cases h); (intro a w hs; exact ZeX (f := 195) (us := []) (cs := [.pointer (some ⟨b1, 0, none⟩), .pointer (some ⟨b2, 0, none⟩), .pointer (some ⟨b3, 0, none⟩), .pointer (some ⟨b4, 0, none⟩)]) hs rfl); (apply Zaq (f := 195) (us := []) (vs := [.string x]) (cs := [.pointer (some ⟨b1, 0, none⟩), .pointer (some ⟨b2, 0, none⟩), .pointer (some ⟨b3, 0, none⟩), .pointer (some ⟨b4, 0, none⟩)]) (h := fun w' _ hH => hoc hH (by unfold ofO; exact SOA)); rfl; rfl; rintro v O' ⟨rfl, rfl⟩)) | (refine Zbm ?_))
    refine thenQ_n ?_
    refine Zcc rfl (fun _ => ?_) (fun h => by cases h)
    refine Zgk (ZbL ?_)
    apply Zb1 (Or.inr ⟨_, rfl⟩); (intro d hd; cases hd); (intro c h; cases h); (intro a w hs; exact ZdB a w)
    (apply Stp_storeNf; rfl; rfl; (focus repeat' constructor); (focus repeat (first | exact Nf.nil | apply Nf.cons)); rfl; rfl; rfl; (focus repeat' constructor))
    refine Zbm ?_
    refine thenQ_n ?_
    refine ZiS ?_
    refine blockQ_r ?_
    exact ⟨_, (by repeat' constructor), hbad, fun h => (by cases h), fun _ => SOA⟩
   | true =>
    rw [hn] at hoc
    have hsz := (ZjE hn).1
    have hxz : (0 : Int) < (x.size : Int) := by omega
    cases hxl : x.data.toList with
    | nil =>
     exfalso
     have h0 : x.size = 0 := by
      have : x.size = x.data.toList.length := rfl
      rw [this, hxl]; rfl
     omega
    | cons c tl =>
    have hxc : x.data.toList.getD (Int.toNat 0) 0 = c := by rw [hxl]; rfl
    dsimp only
    by_cases h46 : c = 46
    ·subst h46
     have e46 : decide (((46 : UInt8).toNat : Int) = 46) = true := by decide
     have e45 := e46
     have hbad : false = (true && !(decide ((46 : UInt8) = 46) || decide ((46 : UInt8) = 45))) := by decide
     repeat (first | (apply Zdb (Or.inr ⟨_, rfl⟩); rfl; (intro c h; cases h); (first | (apply Pu_loadB1; rfl; (focus repeat' constructor); rfl) | (apply Pu_lenS; rfl) | (apply ZaM; rfl; rfl; exact h60) | (apply Pu_move; rfl) | (apply Pu_not; rfl) | (apply Pu_pickT; rfl; rfl) | (apply Pu_pickF; rfl; rfl) | (apply Zgo; rfl; rfl; decide; exact hxz; exact hxc) | (apply ZaC; rfl; rfl; first | exact e46 | exact e45))) | (refine ZiT rfl rfl rfl ?_) | (refine ZmO (Or.inr ⟨_, rfl⟩) rfl rfl rfl rfl rfl ?_) | (apply Zb1 (Or.inr ⟨_, rfl⟩); (intro d hd; cases hd; rfl); (intro c h; cases h); (intro a w hs; exact ZeX (f := 195) (us := []) (cs := [.pointer (some ⟨b1, 0, none⟩), .pointer (some ⟨b2, 0, none⟩), .pointer (some ⟨b3, 0, none⟩), .pointer (some ⟨b4, 0, none⟩)]) hs rfl); (apply Zaq (f := 195) (us := []) (vs := [.string x]) (cs := [.pointer (some ⟨b1, 0, none⟩), .pointer (some ⟨b2, 0, none⟩), .pointer (some ⟨b3, 0, none⟩), .pointer (some ⟨b4, 0, none⟩)]) (h := fun w' _ hH => hoc hH (by unfold ofO; exact SOA)); rfl; rfl; rintro v O' ⟨rfl, rfl⟩)) | (refine Zbm ?_))
     refine thenQ_n ?_
     refine Zcc rfl (fun _ => ?_) (fun h => by cases h)
     refine Zgk (ZbL ?_)
     apply Zb1 (Or.inr ⟨_, rfl⟩); (intro d hd; cases hd); (intro c h; cases h); (intro a w hs; exact ZdB a w)
     (apply Stp_storeNf; rfl; rfl; (focus repeat' constructor); (focus repeat (first | exact Nf.nil | apply Nf.cons)); rfl; rfl; rfl; (focus repeat' constructor))
     refine Zbm ?_
     refine thenQ_n ?_
     refine ZiS ?_
     refine blockQ_r ?_
     exact ⟨_, (by repeat' constructor), hbad, fun h => (by cases h), fun _ => SOA⟩
    have hne46 : (c.toNat : Int) ≠ 46 := fun e => h46 (UInt8.toNat_inj.1 (by show c.toNat = 46; omega))
    by_cases h45 : c = 45
    ·subst h45
     have e46 : decide (((45 : UInt8).toNat : Int) = 46) = false := by decide
     have e45 : decide (((45 : UInt8).toNat : Int) = 45) = true := by decide
     have hbad : false = (true && !(decide ((45 : UInt8) = 46) || decide ((45 : UInt8) = 45))) := by decide
     repeat (first | (apply Zdb (Or.inr ⟨_, rfl⟩); rfl; (intro c h; cases h); (first | (apply Pu_loadB1; rfl; (focus repeat' constructor); rfl) | (apply Pu_lenS; rfl) | (apply ZaM; rfl; rfl; exact h60) | (apply Pu_move; rfl) | (apply Pu_not; rfl) | (apply Pu_pickT; rfl; rfl) | (apply Pu_pickF; rfl; rfl) | (apply Zgo; rfl; rfl; decide; exact hxz; exact hxc) | (apply ZaC; rfl; rfl; first | exact e46 | exact e45))) | (refine ZiT rfl rfl rfl ?_) | (refine ZmO (Or.inr ⟨_, rfl⟩) rfl rfl rfl rfl rfl ?_) | (apply Zb1 (Or.inr ⟨_, rfl⟩); (intro d hd; cases hd; rfl); (intro c h; cases h); (intro a w hs; exact ZeX (f := 195) (us := []) (cs := [.pointer (some ⟨b1, 0, none⟩), .pointer (some ⟨b2, 0, none⟩), .pointer (some ⟨b3, 0, none⟩), .pointer (some ⟨b4, 0, none⟩)]) hs rfl); (apply Zaq (f := 195) (us := []) (vs := [.string x]) (cs := [.pointer (some ⟨b1, 0, none⟩), .pointer (some ⟨b2, 0, none⟩), .pointer (some ⟨b3, 0, none⟩), .pointer (some ⟨b4, 0, none⟩)]) (h := fun w' _ hH => hoc hH (by unfold ofO; exact SOA)); rfl; rfl; rintro v O' ⟨rfl, rfl⟩)) | (refine Zbm ?_))
     refine thenQ_n ?_
     refine Zcc rfl (fun _ => ?_) (fun h => by cases h)
     refine Zgk (ZbL ?_)
     apply Zb1 (Or.inr ⟨_, rfl⟩); (intro d hd; cases hd); (intro c h; cases h); (intro a w hs; exact ZdB a w)
     (apply Stp_storeNf; rfl; rfl; (focus repeat' constructor); (focus repeat (first | exact Nf.nil | apply Nf.cons)); rfl; rfl; rfl; (focus repeat' constructor))
     refine Zbm ?_
     refine thenQ_n ?_
     refine ZiS ?_
     refine blockQ_r ?_
     exact ⟨_, (by repeat' constructor), hbad, fun h => (by cases h), fun _ => SOA⟩
    have hne45 : (c.toNat : Int) ≠ 45 := fun e => h45 (UInt8.toNat_inj.1 (by show c.toNat = 45; omega))
    have e46 : decide ((c.toNat : Int) = 46) = false := decide_eq_false hne46
    have e45 : decide ((c.toNat : Int) = 45) = false := decide_eq_false hne45
    have hgood : true = (true && !(decide (c = 46) || decide (c = 45))) := by rw [decide_eq_false h46, decide_eq_false h45]; rfl
    repeat (first | (apply Zdb (Or.inr ⟨_, rfl⟩); rfl; (intro c h; cases h); (first | (apply Pu_loadB1; rfl; (focus repeat' constructor); rfl) | (apply Pu_lenS; rfl) | (apply ZaM; rfl; rfl; exact h60) | (apply Pu_move; rfl) | (apply Pu_not; rfl) | (apply Pu_pickT; rfl; rfl) | (apply Pu_pickF; rfl; rfl) | (apply Zgo; rfl; rfl; decide; exact hxz; exact hxc) | (apply ZaC; rfl; rfl; first | exact e46 | exact e45))) | (refine ZiT rfl rfl rfl ?_) | (refine ZmO (Or.inr ⟨_, rfl⟩) rfl rfl rfl rfl rfl ?_) | (apply Zb1 (Or.inr ⟨_, rfl⟩); (intro d hd; cases hd; rfl); (intro c h; cases h); (intro a w hs; exact ZeX (f := 195) (us := []) (cs := [.pointer (some ⟨b1, 0, none⟩), .pointer (some ⟨b2, 0, none⟩), .pointer (some ⟨b3, 0, none⟩), .pointer (some ⟨b4, 0, none⟩)]) hs rfl); (apply Zaq (f := 195) (us := []) (vs := [.string x]) (cs := [.pointer (some ⟨b1, 0, none⟩), .pointer (some ⟨b2, 0, none⟩), .pointer (some ⟨b3, 0, none⟩), .pointer (some ⟨b4, 0, none⟩)]) (h := fun w' _ hH => hoc hH (by unfold ofO; exact SOA)); rfl; rfl; rintro v O' ⟨rfl, rfl⟩)) | (refine Zbm ?_))
    refine thenQ_n ?_
    refine Zcc rfl (fun h => by cases h) (fun _ => ?_)
    refine ZiR ?_
    refine blockQ_n ?_
    exact ⟨_, (by repeat' constructor), hgood, fun _ => SubO.trans (by rw [<- hr]; exact .refl _) (.refl _), fun h => (by cases h)⟩
 ·rintro jump O2 D w4 ⟨hsub, ⟨rfl, hz⟩ | ⟨rfl, hz⟩⟩ hs4
  ·have hs5 : St 28 w [(2, .pointer (some ⟨br, 0, none⟩))] [Zc6 D, .blk br [.bool false] 4] a3 w4 := hs4.sub SFA (.cons .here hsub)
   show (Code.seq _ _).wp _ _ _ _
   have key : ∀ c Q' Q3, WI Fence.wide (ZgF D) Tryz.prog 28 w c Q' [(2, .pointer (some ⟨br, 0, none⟩))] [Zc6 D, .blk br [.bool false] 4] -> (∀ e a' w', Zvc (ZgF D) 28 w Q' e a' w' -> Q3 e a' w') -> c.wp Tryz.prog Q3 (actD (ZgF D) a3) w4 := fun c Q' Q3 h hq => (wpIn_wide (n := 0)).1 (wpIn_mono (h.at hs5) hq)
   refine key _ (fun e fr O => e = .ret /\ Sub [(2, .pointer (some ⟨br, 0, none⟩))] fr /\ SubO [Zc6 D, .blk br [.bool true] 4] O) _ (Zgk (ZbL ?_)) ?_
   ·apply Zb1 (.inl rfl); (intro d hd; cases hd); (intro c h; cases h); (intro a w hs; exact ZdB a w)
    (apply Stp_storeNf; rfl; rfl; (focus repeat' constructor); (focus repeat (first | exact Nf.nil | apply Nf.cons)); rfl; rfl; rfl; (focus repeat' constructor))
    refine Zbm ?_
    refine thenQ_n ?_
    refine ZiS ?_
    exact ⟨rfl, SFA, .refl _⟩
   ·rintro e a' w' ⟨hd, fr', O', hs', rfl, hf, hO⟩
    have h := Zjj s w (hs'.sub hf hO) rfl (.here) hz.symm
    rw [ZeE hd] at h
    exact h
  ·have hs5 : St 28 w [(2, .pointer (some ⟨br, 0, none⟩))] [Zc6 D, .blk br [.bool false] 4] a3 w4 := hs4.sub SFA (.cons .here hsub)
   refine wp_ret ?_
   exact Zjj s w hs5 rfl .here hz.symm
end Go.Proofs.YtdlmhmmhdbbliaaGreatDoor
set_option maxHeartbeats 2000000
namespace Go.Wk
open Go Go.RowKit
structure Zhr (s : Zai) : Prop where
 nr : s.rules.length <= 1000000
 nz : s.zones.length <= 1000000
 nl : s.links.length <= 1000000
 ns : s.shifts.length <= 1000000
 rs : ∀ r ∈ s.rules, r.name.size <= 1000000000 /\ r.letter.size <= 1000000000
 zs : ∀ z ∈ s.zones, z.name.size <= 1000000000 /\ z.eras.length <= 1000000 /\ ∀ e ∈ z.eras, e.set.size <= 1000000000 /\ e.format.size <= 1000000000
 ls : ∀ l ∈ s.links, l.target.size <= 1000000000 /\ l.name.size <= 1000000000
def plV (p : Zay) : Value := .agg (Zay.enc p).toArray
def ptV : Option (Zay × Int) -> Value
 | none => .tuple #[plV ⟨0, 0, 0⟩, .int .i64 0]
 | some (p, e) => .tuple #[plV p, .int .i64 e]
end Go.Wk
namespace Go.Proofs.YtdlmhmmhdbbliaaGreatDoor
open Go Go.RowKit Go.Wk
attribute [local irreducible] W RL Does Zau Zaj retQ Calls Pu Stp RD Qy Ay Zak
theorem Zqs (Ar Az Al As : Option Addr) (cr cz cl cs : Nat) (a : Zai) (b1 : Nat) (mk : List (ByteArray × Value)) (w : World) (hA : Zat w Ar Az Al As cr cz cl cs a) (hS : Zhr a) (h1 : MpAt w b1 mk) (hk : IxM mk fun x => Zbn x a.zones 0) :
  Does Tryz.prog 179 [srcV Ar Az Al As cr cz cl cs a, .map (some b1)] w (fun v O => v = ptV (ZaO a a.zones 0) /\ O = []) := by
 have hn := hS.nz
 obtain ⟨res, hres⟩ : ∃ res, ZaO a a.zones 0 = res := ⟨_, rfl⟩
 rw [hres]
 refine Zab Tryz.func179 rfl rfl rfl rfl ?_
 repeat (first | (refine js ?_; (refine bx ?_; intro bk)) | refine walk ?_)
 refine Zao [(1, .map (some b1)), (4, .pointer (some ⟨bk, 0, none⟩)), (10, .slice Az a.zones.length cz), (11, .int .i64 a.zones.length)] [.blk bk [.int .i64 0, .int .i64 0, .int .i64 0] 131] (fun k : Nat => [(12, .int .i64 k)]) (fun _ => []) (fun k => k <= a.zones.length /\ ZaO a (a.zones.drop k) k = res) (fun k => a.zones.length - k) 0 SFA SOA ⟨Nat.zero_le _, hres⟩ ?_
 rintro k ⟨hkl, hi⟩
 obtain ⟨b4, hb4⟩ : ∃ b4, bk = b4 := ⟨_, rfl⟩
 rw [hb4] at *
 clear hb4 bk
 repeat (first | (refine js ?_; (refine bx ?_; intro bk)) | refine walk ?_)
 refine Zaf rfl (fun hc => ?_) (fun hc => ?_)
 ·simp only [decide_eq_true_eq, Int.ofNat_lt] at hc
  obtain ⟨hna, cs1, ⟨Ae, ce, _, rfl⟩, hca⟩ := hA.z k _ (List.getElem?_eq_getElem hc)
  have hmem := List.getElem_mem hc
  rw [Zan hc, ZaO] at hi
  generalize a.zones[k] = z at *
  have hsz := (hS.zs z hmem).1
  obtain ⟨j, hj⟩ := ZjR 0 hmem
  obtain ⟨hv0, _⟩ := hk.some hj
  have hzn := fun w' => Zlj z.name (by omega) w'
  rw [hj] at hi
  generalize Zgt z.name = zb at *
  cases zb with
  | false =>
   rw [if_pos rfl] at hi
   subst hi
   repeat (first | (apply RL_pu; rfl; exact PuI) | (refine js ?_; (first | (refine Zac (fun w' hw => hzn w') ?_) | (refine bx ?_; intro bk))) | refine walk1 ?_)
   exact rtC
  | true =>
   rw [if_neg (by decide)] at hi
   repeat (first | (apply RL_pu; rfl; (first | exact PuI | (apply ZmS; rfl; rfl; exact h1; exact hv0))) | (refine js ?_; (first | (refine Zac (fun w' hw => hzn w') ?_) | (refine bx ?_; intro bk))) | refine walk1 ?_)
   refine Zaf rfl (fun h2 => ?_) (fun h2 => ?_)
   ·simp only [Bool.not_eq_true', decide_eq_false_iff_not] at h2
    rw [if_pos (fun e => h2 (by simp only [Option.some.injEq] at e; omega))] at hi
    subst hi
    repeat (first | (refine js ?_; (refine bx ?_; intro bk)) | refine walk ?_)
    exact rtC
   ·simp only [Bool.not_eq_false', decide_eq_true_eq] at h2
    rw [if_neg (fun e => e (by congr 1; omega))] at hi
    repeat (first | (refine js ?_; (refine bx ?_; intro bk)) | refine walk ?_)
    exact ⟨k + 1, OA, ⟨OA, hi⟩, SFA, SOA⟩
 ·simp only [decide_eq_false_iff_not, Int.ofNat_lt] at hc
  rw [List.drop_eq_nil_of_le (by omega), ZaO] at hi
  subst hi
  repeat (first | (refine js ?_; (refine bx ?_; intro bk)) | refine walk ?_)
  exact rtC
theorem IxM.any {m : List (ByteArray × Value)} {f : ByteArray -> Option Nat} (h : IxM m f) (x : ByteArray) : ∃ n : Int, (mget m x).getD (.int .i64 0) = .int .i64 n /\ (mget m x).isSome = (f x).isSome := by
 rw [h x]
 cases f x with
 | none => exact ⟨0, rfl, rfl⟩
 | some i => exact ⟨i, rfl, rfl⟩
theorem Zef (s : Zai) : ∀ (l : List ZaY) (i : Nat) (p : Zay) (e : Int), ZaO s l i = some (p, e) -> e ≠ 0
 | [], _, _, _, h => by cases h
 | z :: l, i, p, e, h => by
  simp only [ZaO] at h
  split at h
  ·simp only [Option.some.injEq, Prod.mk.injEq] at h; omega
  ·split at h
   ·simp only [Option.some.injEq, Prod.mk.injEq] at h; omega
   ·exact Zef s l _ p e h
theorem Zdf {G G' : Prop} (k : G') (h : Hold G' -> G := by intro k9; (first | refine walk ?_ | (refine jn ?_; (try intro F); (first | (refine stA ?_) | (apply Zae; exact PuA)); refine fin ?_)); exact k9.out) : G := h ⟨k⟩
theorem Zt9 {G : Prop} (h : G := by (apply ZaD; rfl; rfl; exact hne')) : G := h
theorem Zt8 {G : Prop} (h : G := by (first | exact PuI | (apply ZbR; rfl; rfl; (focus repeat' constructor); exact hv1; exact hc1) | (apply ZbR; rfl; rfl; (focus repeat' constructor); exact hv2; exact hc2) | (apply ZbR; rfl; rfl; (focus repeat' constructor); exact hv3; exact hc3) | (apply ZgX; rfl; rfl; (focus repeat' constructor); exact hv4))) : G := h
theorem Zm9 {G G' : Prop} (k : G') (h : Hold G' -> G := by intro k9; (first | (apply RL_pu; rfl; exact Zt8) | (apply RD_Q; rfl; rfl; decide +kernel; rfl; rfl; exact QyLnkB2) | refine walk1 ?_ | (refine jg ?_; (try intro F); (first | (refine Zac (fun w' hw => hzn w') ?_) | (refine stA ?_)); first | refine ⟨_, EndsA, QFLnkB2, ?_⟩ | refine fin ?_) | (refine jn ?_; (try intro F); (first | (refine stA ?_) | (apply Zae; first | exact Zt8 | exact PuA)); first | refine ⟨_, EndsA, QFLnkB2, ?_⟩ | refine fin ?_)); exact k9.out) : G := h ⟨k⟩
theorem Zqz (Ar Az Al As : Option Addr) (cr cz cl cs : Nat) (a : Zai) (w : World) (hA : Zat w Ar Az Al As cr cz cl cs a) (hS : Zhr a) :
  Does Tryz.prog 139 [srcV Ar Az Al As cr cz cl cs a] w (fun v O => v = ptV (Zcp a) /\ O = []) := by
 have hnz := hS.nz
 have hnl := hS.nl
 have hnm := fun bm mk w' (h0 : Zat w' Ar Az Al As cr cz cl cs a) => Zqs Ar Az Al As cr cz cl cs a bm mk w' h0 hS
 refine Zab Tryz.func139 rfl rfl rfl rfl ?_
 repeat (first | refine ZuH ?_ | (refine jn ?_; (try intro F); (first | (refine bx ?_; intro bk) | (refine stA ?_) | (apply Zae; exact PuA)); refine fin ?_) | (apply RD_W; rfl; intro bk))
 rename_i b1
 obtain ⟨b2, hb2⟩ : ∃ b2, bk = b2 := ⟨_, rfl⟩
 rw [hb2]
 clear hb2 bk
 repeat (first | refine walk ?_ | (refine jg ?_; (try intro F); (first | (apply Zag (h := fun w' hw _ => Zh5 Ar Az Al As cr cz cl cs a w' (hA.up hw) hnz); rfl; rintro v O' ⟨bm, mk, rfl, rfl, hk, hkd, hkl⟩) | (apply Zag (h := fun w' hw _ => ZfW Ar Az Al As cr cz cl cs a w' (hA.up hw) hnl); rfl; rintro v O' ⟨bl, ml, rfl, rfl, hl, hld, hll⟩) | (refine bx ?_; intro bk) | (refine stA ?_)); refine fin ?_) | (refine jn ?_; (try intro F); (first | (refine bx ?_; intro bk) | (refine stA ?_) | (apply Zae; exact PuA)); refine fin ?_) | (apply RD_W; rfl; intro bk))
 have hnm2 := fun w' hw hO => hnm bm mk w' (Zat.up hA hw) hO hk
 unfold Zcp
 cases hzf : ZaO a a.zones 0 with
 | some pe =>
  obtain ⟨pl, e⟩ := pe
  rw [hzf] at hnm2
  have hne := Zef a a.zones 0 pl e hzf
  have hne' : (!decide (e = 0)) = true := by rw [decide_eq_false hne]; rfl
  repeat (first | (apply RL_pu; rfl; exact Zt9) | (apply RD_Q; rfl; rfl; decide +kernel; rfl; rfl; exact QyLnkB1) | refine walk1 ?_ | (refine jg ?_; (try intro F); (first | (refine ZaV (fun w' hw hO => hnm2 w' hw (hO.of (A := .mp bm mk) (by repeat' constructor))) ?_) | (refine bx ?_; intro bk) | (refine stA ?_)); first | refine ⟨_, EndsA, QFLnkB1, ?_⟩ | refine fin ?_) | (refine jn ?_; (try intro F); (first | (refine bx ?_; intro bk) | (refine stA ?_) | (apply Zae; first | exact Zt9 | exact PuA)); first | refine ⟨_, EndsA, QFLnkB1, ?_⟩ | refine fin ?_) | (apply RD_W; rfl; intro bk))
  exact rtC
 | none =>
 rw [hzf] at hnm2
 rw [Option.none_or]
 obtain ⟨res, hres⟩ : ∃ res, (Zbe a a.links 0).or (Zbd a a.links 0) = res := ⟨_, rfl⟩
 rw [hres]
 repeat (first | refine walk ?_ | (refine jg ?_; (try intro F); (first | (refine ZaV (fun w' hw hO => hnm2 w' hw (hO.of (A := .mp bm mk) (by repeat' constructor))) ?_) | (refine bx ?_; intro bk) | (refine stA ?_)); refine fin ?_) | (refine jn ?_; (try intro F); (first | (refine bx ?_; intro bk) | (refine stA ?_) | (apply Zae; exact PuA)); refine fin ?_) | (apply RD_W; rfl; intro bk))
 refine Zao [(1, .pointer (some ⟨b1, 0, none⟩)), (2, .pointer (some ⟨b2, 0, none⟩)), (4, .map (some bm)), (5, .map (some bl)), (36, .slice Al a.links.length cl), (37, .int .i64 a.links.length)] [.mp bl ml, .mp bm mk, .blk b2 [.int .i64 0, .int .i64 0, .int .i64 0] 131, .blk b1 [.slice Ar a.rules.length cr, .slice Az a.zones.length cz, .slice Al a.links.length cl, .slice As a.shifts.length cs] 32]
  (fun k : Nat => [(38, .int .i64 k)]) (fun _ => []) (fun k => k <= a.links.length /\ (Zbe a (a.links.drop k) k).or (Zbd a a.links 0) = res) (fun k => a.links.length - k) 0 SFA SOA ⟨Nat.zero_le _, hres⟩ ?_
 rintro k ⟨hkl', hi⟩
 repeat (first | refine Zdf ?_ | (refine jn ?_; (try intro F); (refine bx ?_; intro bk); refine fin ?_) | (apply RD_W; rfl; intro bk))
 refine Zaf rfl (fun hc => ?_) (fun hc => ?_)
 ·simp only [decide_eq_true_eq, Int.ofNat_lt] at hc
  obtain ⟨hna, hca⟩ := hA.l.rd k _ (List.getElem?_eq_getElem hc)
  have hmem := List.getElem_mem hc
  rw [Zan hc, Zbe] at hi
  generalize a.links[k] = lk at *
  have hsz := (hS.ls lk hmem).2
  obtain ⟨n1, hv1, hc1⟩ := hk.any lk.name
  obtain ⟨n2, hv2, hc2⟩ := hk.any lk.target
  obtain ⟨n3, hv3, hc3⟩ := hl.any lk.target
  obtain ⟨j, hj⟩ := ZjS 0 hmem
  have hv4 := (hl.some hj).1
  rw [hj] at hi
  generalize (Zbn lk.name a.zones 0).isSome = c1 at *
  rw [<- Option.not_isSome, <- Option.not_isSome] at hi
  generalize (Zbn lk.target a.zones 0).isSome = c2 at *
  generalize (Zb8 lk.target a.links 0).isSome = c3 at *
  have hzn := fun w' => Zlj lk.name (by omega) w'
  generalize Zgt lk.name = zb at *
  cases zb with
  | false =>
   rw [if_pos rfl] at hi
   subst hi
   repeat (first | refine Zm9 ?_ | (refine jg ?_; (try intro F); (refine bx ?_; intro bk); first | refine ⟨_, EndsA, QFLnkB2, ?_⟩ | refine fin ?_) | (refine jn ?_; (try intro F); (refine bx ?_; intro bk); first | refine ⟨_, EndsA, QFLnkB2, ?_⟩ | refine fin ?_) | (apply RD_W; rfl; intro bk))
   exact rtC
  | true =>
   rw [if_neg (by decide)] at hi
   cases c1 with
   | true =>
    rw [if_pos (.inl rfl)] at hi
    subst hi
    repeat (first | refine Zm9 ?_ | (refine jg ?_; (try intro F); (refine bx ?_; intro bk); first | refine ⟨_, EndsA, QFLnkB2, ?_⟩ | refine fin ?_) | (refine jn ?_; (try intro F); (refine bx ?_; intro bk); first | refine ⟨_, EndsA, QFLnkB2, ?_⟩ | refine fin ?_) | (apply RD_W; rfl; intro bk))
    exact rtC
   | false =>
    repeat (first | refine Zm9 ?_ | (refine jg ?_; (try intro F); (refine bx ?_; intro bk); first | refine ⟨_, EndsA, QFLnkB2, ?_⟩ | refine fin ?_) | (refine jn ?_; (try intro F); (refine bx ?_; intro bk); first | refine ⟨_, EndsA, QFLnkB2, ?_⟩ | refine fin ?_) | (apply RD_W; rfl; intro bk))
    refine Zaf rfl (fun h2 => ?_) (fun h2 => ?_)
    ·simp only [Bool.not_eq_true', decide_eq_false_iff_not] at h2
     rw [if_pos (.inr fun e => h2 (by simp only [Option.some.injEq] at e; omega))] at hi
     subst hi
     repeat (first | refine Zdf ?_ | (refine jn ?_; (try intro F); (refine bx ?_; intro bk); refine fin ?_) | (apply RD_W; rfl; intro bk))
     exact rtC
    ·simp only [Bool.not_eq_false', decide_eq_true_eq] at h2
     rw [if_neg (by rintro (e | e); cases e; exact e (by congr 1; omega))] at hi
     by_cases hcc : c2 = false /\ c3 = false
     ·obtain ⟨rfl, rfl⟩ := hcc
      rw [if_pos ⟨rfl, rfl⟩] at hi
      subst hi
      repeat (first | refine Zdf ?_ | (refine jn ?_; (try intro F); (refine bx ?_; intro bk); refine fin ?_) | (apply RD_W; rfl; intro bk))
      exact rtC
     ·rw [if_neg (by simpa using hcc)] at hi
      cases c2 with
      | true =>
       repeat (first | refine Zdf ?_ | (refine jn ?_; (try intro F); (refine bx ?_; intro bk); refine fin ?_) | (apply RD_W; rfl; intro bk))
       exact ⟨k + 1, OA, ⟨OA, hi⟩, SFA, SOA⟩
      | false =>
       cases c3 with
       | false => exact absurd ⟨rfl, rfl⟩ hcc
       | true =>
        repeat (first | refine Zdf ?_ | (refine jn ?_; (try intro F); (refine bx ?_; intro bk); refine fin ?_) | (apply RD_W; rfl; intro bk))
        exact ⟨k + 1, OA, ⟨OA, hi⟩, SFA, SOA⟩
 ·simp only [decide_eq_false_iff_not, Int.ofNat_lt] at hc
  rw [List.drop_eq_nil_of_le (by omega), Zbe, Option.none_or] at hi
  repeat (first | refine Zdf ?_ | (refine jn ?_; (try intro F); (refine bx ?_; intro bk); refine fin ?_) | (apply RD_W; rfl; intro bk))
  clear hc hkl' hres
  refine Zao [(1, .pointer (some ⟨b1, 0, none⟩)), (2, .pointer (some ⟨b2, 0, none⟩)), (4, .map (some bm)), (5, .map (some bl)), (93, .slice Al a.links.length cl), (94, .int .i64 a.links.length)] [.mp bl ml, .mp bm mk, .blk b2 [.int .i64 0, .int .i64 0, .int .i64 0] 131, .blk b1 [.slice Ar a.rules.length cr, .slice Az a.zones.length cz, .slice Al a.links.length cl, .slice As a.shifts.length cs] 32]
   (fun k : Nat => [(95, .int .i64 k)]) (fun _ => []) (fun k => k <= a.links.length /\ Zbd a (a.links.drop k) k = res) (fun k => a.links.length - k) 0 SFA SOA ⟨Nat.zero_le _, hi⟩ ?_
  clear hi
  rintro k ⟨hkl', hi⟩
  repeat (first | refine Zdf ?_ | (refine jn ?_; (try intro F); (refine bx ?_; intro bk); refine fin ?_) | (apply RD_W; rfl; intro bk))
  refine Zaf rfl (fun hc => ?_) (fun hc => ?_)
  ·simp only [decide_eq_true_eq, Int.ofNat_lt] at hc
   obtain ⟨hna, hca⟩ := hA.l.rd k _ (List.getElem?_eq_getElem hc)
   rw [Zan hc, Zbd] at hi
   generalize a.links[k] = lk at *
   have hfo := fun w' h0 h1 h2 => Zif Ar Az Al As cr cz cl cs a bm bl mk ml lk.name w' h0 h1 h2 hk hl hld hll
   generalize Za7 a (a.links.length + 1) [] lk.name = fo at *
   obtain ⟨fi, fe⟩ := fo
   dsimp only at hfo hi
   repeat (first | (apply RL_pu; rfl; exact PuI) | (apply RD_Q; rfl; rfl; decide +kernel; rfl; rfl; exact QyI) | refine walk1 ?_ | (refine jg ?_; (try intro F); (first | (refine ZaV (fun w' hw hO => hfo w' (hA.up hw) (hO.of (A := .mp bm mk) (by repeat' constructor)) (hO.of (A := .mp bl ml) (by repeat' constructor))) ?_) | (refine bx ?_; intro bk) | (refine stA ?_)); first | refine ⟨_, EndsA, QFI, ?_⟩ | refine fin ?_) | (refine jn ?_; (try intro F); (first | (refine bx ?_; intro bk) | (refine stA ?_) | (apply Zae; first | exact PuI | exact PuA)); first | refine ⟨_, EndsA, QFI, ?_⟩ | refine fin ?_) | (apply RD_W; rfl; intro bk))
   refine Zaf rfl (fun h2 => ?_) (fun h2 => ?_)
   ·simp only [decide_eq_true_eq] at h2
    subst h2
    rw [if_pos rfl] at hi
    subst hi
    repeat (first | refine Zdf ?_ | (refine jn ?_; (try intro F); (refine bx ?_; intro bk); refine fin ?_) | (apply RD_W; rfl; intro bk))
    exact rtC
   ·simp only [decide_eq_false_iff_not] at h2
    rw [if_neg h2] at hi
    repeat (first | refine Zdf ?_ | (refine jn ?_; (try intro F); (refine bx ?_; intro bk); refine fin ?_) | (apply RD_W; rfl; intro bk))
    exact ⟨k + 1, OA, ⟨OA, hi⟩, SFA, SOA⟩
  ·simp only [decide_eq_false_iff_not, Int.ofNat_lt] at hc
   rw [List.drop_eq_nil_of_le (by omega), Zbd] at hi
   subst hi
   repeat (first | refine Zdf ?_ | (refine jn ?_; (try intro F); (refine bx ?_; intro bk); refine fin ?_) | (apply RD_W; rfl; intro bk))
   exact rtC
end Go.Proofs.YtdlmhmmhdbbliaaGreatDoor
