/- Parts of the proof. -/
import Derived.Test.YtdlmhmmhdbbliaaGreatDoorW17
import Derived.Test.YtdlmhmmhdbbliaaGreatDoorW13
import Derived.Test.YtdlmhmmhdbbliaaGreatDoorW07
set_option maxHeartbeats 4000000
set_option linter.unusedVariables false
set_option linter.unusedSimpArgs false
namespace Go.Wk
open Go Go.RowKit
theorem ZvQ {P : Program} {n : Nat} {wr : World} {fr : Fr} {O : List It} {ty t t' : TypeId} {α : Type} [DecidableEq α] {enc : α -> List Value} {x y : Operand} {i j : α} {b : Bool} [hE : EqE P t α enc] (hx : ev fr x = some (.agg (enc i).toArray)) (hy : ev fr y = some (.agg (enc j).toArray)) (h : (!decide (i = j)) = b) :
  Pu P n wr fr O (.binOp .neq t x y t') ty (.bool b) := h ▸ Pu_neqE hx hy
end Go.Wk
namespace Go.Proofs.YtdlmhmmhdbbliaaGreatDoor
open Go Go.RowKit Go.Wk
attribute [local irreducible] W RL Does Zau Zaj retQ Calls Pu Stp RD Qy Ay Zak
theorem Zme (A : Option Addr) (c : Nat) (l : List (Int × ByteArray)) (f : FuncId) [Body Tryz.prog f] (us cs : List Value) (p : Int × ByteArray -> Bool) (w : World) (hA : RdSl w A c Zb4 2 l)
  (hf : ∀ r ∈ l, ∀ w', Bel w.heap.size w w' -> Does Tryz.prog f (us ++ [.agg (Zb4 r).toArray] ++ cs) w' (fun v O => v = .bool (p r) /\ O = [])) :
  Does Tryz.prog 216 [.slice A l.length c, .func (.func f) us.toArray cs.toArray] w (fun v O => v = .int .i64 (ZbS p l 0) /\ O = []) := by
 have hs1 := hA.le
 have hs2 := hA.cap
 unfold maxLen at hs2
 generalize hres : ZbS p l 0 = res
 refine Zab Tryz.func216 rfl rfl rfl rfl ?_
 repeat (first | refine walk ?_)
 refine Zao [(0, _), (1, _), (4, _), (7, _)] _ (fun k : Nat => [(8, .int .i64 k)]) (fun _ => []) (fun k => k <= l.length /\ ZbS p (l.drop k) k = res) (fun k => l.length - k) 0 ⟨rfl, rfl, rfl, rfl, rfl, trivial⟩ (.refl _) ⟨by omega, by simpa using hres⟩ ?_
 rintro k ⟨hk, hi⟩
 repeat (first | refine walk ?_)
 refine Zaf rfl (fun hc => ?_) (fun hc => ?_)
 ·simp only [decide_eq_true_eq, Int.ofNat_lt] at hc
  obtain ⟨hna, hca⟩ := hA.rd k _ (List.getElem?_eq_getElem hc)
  have hnb := hna
  have hcb := hca
  rw [Zan hc, ZbS] at hi
  have hrm := List.getElem_mem hc
  generalize l[k] = r at *
  repeat (first | (apply RL_pu; rfl; exact PuI) | (refine js ?_; (refine Zgd (fun w' hw _ => hf r hrm w' hw) ?_)) | refine walk1 ?_)
  refine Zaf rfl (fun h3 => ?_) (fun h3 => ?_)
  ·repeat (first | refine walk ?_)
   rw [if_pos h3] at hi
   exact ret_1 _ [] (.tmp rfl) .nil ⟨by rw [<- hi], rfl⟩
  repeat (first | refine walk ?_)
  rw [h3] at hi
  exact ⟨k + 1, by omega, ⟨by omega, hi⟩, SFA, SOA⟩
 simp only [decide_eq_false_iff_not, Int.ofNat_lt] at hc
 repeat (first | refine walk ?_)
 exact ret_1 _ [] (.tmp rfl) .nil ⟨by rw [<- hi, List.drop_eq_nil_of_le (by omega)]; rfl, rfl⟩
theorem ZiC (A : Option Addr) (c : Nat) (l : List (Int × ByteArray)) (f : FuncId) [Body Tryz.prog f] (us cs : List Value) (p : Int × ByteArray -> Bool) (w : World) (hA : RdSl w A c Zb4 2 l)
  (hf : ∀ r ∈ l, ∀ w', Bel w.heap.size w w' -> Does Tryz.prog f (us ++ [.agg (Zb4 r).toArray] ++ cs) w' (fun v O => v = .bool (p r) /\ O = [])) :
  Does Tryz.prog 184 [.slice A l.length c, .func (.func f) us.toArray cs.toArray] w (fun v O => v = .bool (l.any p) /\ O = []) := by
 have h := fun w' (hw : Bel w.heap.size w w') => Zme A c l f us cs p w' (hA.up hw) fun r hr w2 h2 => hf r hr w2 (hw.trans (h2.mono hw.size))
 rw [<- Zip p l 0]
 generalize ZbS p l 0 = k at *
 refine Zab Tryz.func184 rfl rfl rfl rfl ?_
 repeat (first | (refine js ?_; (refine Zac h ?_)) | refine walk ?_)
 exact rtA
theorem ZsW (x : Int × ByteArray) (ad : Addr) (off : Int) (w : World) (h : w.cell? ad = some (.int .i64 off)) (ho : I64 off) (hx : I64 x.1) : Does Tryz.prog 181 [.agg (Zb4 x).toArray, .pointer (some ad)] w (fun v O => v = .bool (!Zb7 off x.1) /\ O = []) := by
 obtain ⟨sv, lt⟩ := x
 dsimp only at hx ⊢
 have hh := fun w' => ZjO off sv ho hx w'
 generalize Zb7 off sv = hb at *
 simp only [Zb4]
 refine Zab Tryz.func181 rfl rfl rfl rfl ?_
 repeat (first | (apply RL_pu; rfl; (apply Pu_loadO1; rfl; exact h)) | (refine js ?_; (first | (refine Zac (fun w' hw => hh w') ?_) | (refine bx ?_; intro bk))) | refine walk1 ?_)
 exact rtA
instance : EqE Tryz.prog 73 ZaT ZaT.enc where
 h r s w := by
  unfold ZaT.enc
  simp [go_sem, Zdm]
  rcases r with ⟨_, _, _, ⟨_, _, _⟩, ⟨_, _⟩⟩
  rcases s with ⟨_, _, _, ⟨_, _, _⟩, ⟨_, _⟩⟩
  simp only [ZlM, Result.ok.injEq, and_true]
  rw [Bool.eq_iff_iff]
  simp [and_assoc]
 g := by kernel_rfl
theorem Znd (e : DEra) (w : World) : Does Tryz.prog 186 [.agg e.enc.toArray] w (fun v O => v = .bool (Zgx e) /\ O = []) := by
 obtain ⟨off, kind, save, set, format, til⟩ := e
 unfold Zgx
 dsimp only
 obtain ⟨is, year, month, ⟨dk, dw, dd⟩, ⟨cs, cb⟩⟩ := til
 dsimp only
 obtain ⟨n1, e1⟩ : ∃ b, (!decide (kind = 1)) = b := ⟨_, rfl⟩
 obtain ⟨n2, e2⟩ : ∃ b, (!decide (save = 0)) = b := ⟨_, rfl⟩
 obtain ⟨n3, e3⟩ : ∃ b, (!decide (kind = 2)) = b := ⟨_, rfl⟩
 obtain ⟨n4, e4⟩ : ∃ b, (!decide (set = ByteArray.empty)) = b := ⟨_, rfl⟩
 obtain ⟨n5, e5⟩ : ∃ b, (!decide ((⟨false, year, month, ⟨dk, dw, dd⟩, ⟨cs, cb⟩⟩ : ZaT) = dU0)) = b := ⟨_, rfl⟩
 rw [e1, e2, e3, e4, e5]
 simp only [DEra.enc]
 refine Zab Tryz.func186 rfl rfl rfl rfl ?_
 repeat' (first | (apply RL_pu; rfl; (first | (apply ZaD; rfl; rfl; exact e1) | (apply ZaD; rfl; rfl; exact e2) | (apply ZaD; rfl; rfl; exact e3) | (apply Ze7; rfl; rfl; exact e4) | (apply ZvQ (i := (⟨false, year, month, ⟨dk, dw, dd⟩, ⟨cs, cb⟩⟩ : ZaT)) (j := dU0) (enc := ZaT.enc); rfl; rfl; exact e5))) | (refine js ?_; (refine bx ?_; intro bk)) | refine walk1 ?_ | refine und ?_ | (refine Zas rfl rfl rfl (fun hc => ?_) (fun hc => ?_)) | (refine Zar rfl rfl rfl (fun hc => ?_) (fun hc => ?_)) | (refine Zaf rfl (fun hc => ?_) (fun hc => ?_)))
 all_goals exact clo1
theorem Zk2.i64 {s : Zai} (h : Zk2 s) : ∀ r ∈ s.rules, I64 r.save := fun r hr => by have := (h r hr).1; unfold I64; omega
theorem ZfN {rs : List Zaa} {e : DEra} {r : Zaa} (h : r ∈ Za5 rs e) : r ∈ rs := by
 unfold Za5 at h
 split at h
 ·exact Zsd h
 ·cases h
theorem ZhT (rs : List Zaa) (e : DEra) : (Za5 rs e).length <= rs.length := by
 unfold Za5
 split
 ·exact Znw _ _
 ·exact Nat.zero_le _
theorem ZhO {rs : List Zaa} {e : DEra} (hr : ∀ r ∈ rs, I64 r.save) (hs : I64 e.save) : ∀ x ∈ ZaN rs e, I64 x.1 := by
 intro x hx
 unfold ZaN at hx
 split at hx
 ·simp only [List.mem_singleton] at hx; subst hx; exact hs
 ·split at hx
  ·obtain ⟨r, h, rfl⟩ := List.mem_map.1 hx
   exact hr r (ZfN h)
  ·simp only [List.mem_singleton] at hx; subst hx; exact ⟨by decide, by decide⟩
def offB (off : Int) (x : Int × ByteArray) : Bool := !Zb7 off x.1
structure Zri (e : DEra) : Prop where
 off : I64 e.off
 save : I64 e.save
 kind : I64 e.kind
 fmt : e.format.size <= 1000000000
theorem ZoA {G : Prop} (h : G := by (apply Zbg; rfl; rfl; exact b1)) : G := h
theorem Zut {G : Prop} (h : G := by (first | exact ZoA | (apply ZaM; rfl; rfl; exact b2))) : G := h
theorem Zoz {G : Prop} (h : G := by (apply Zbg; rfl; rfl; exact s1)) : G := h
theorem Zi9 {G : Prop} (h : G := by (first | exact Zoz | (apply ZaM; rfl; rfl; exact s2))) : G := h
theorem Zol {G : Prop} (h : G := by first | (apply Qy_y; rfl; exact Zi9) | exact QyA) : G := h
theorem Zom {G : Prop} (h : G := by repeat (first | exact QF.nil | (apply QF.mk; rfl; rfl; decide +kernel; exact Zol))) : G := h
theorem Zi8 {G : Prop} (h : G := by (apply ZaC; rfl; rfl; exact r0)) : G := h
theorem Zok {G : Prop} (h : G := by first | (apply Qy_y; rfl; exact Zi8) | exact QyA) : G := h
theorem Zk5 {G : Prop} (h : G := by repeat (first | exact QF.nil | (apply QF.mk; rfl; rfl; decide +kernel; exact Zok))) : G := h
set_option maxHeartbeats 4000000 in
theorem Zsv (Ar Az Al As : Option Addr) (cr cz cl cs : Nat) (a : Zai) (e : DEra) (first : Bool) (w : World) (hL : LibW w) (hA : Zat w Ar Az Al As cr cz cl cs a) (hS : Zhr a) (hV : Zk2 a) (hE : Zri e) :
  Does Tryz.prog 140 [srcV Ar Az Al As cr cz cl cs a, .agg e.enc.toArray, .bool first] w (fun v O => v = .int .i64 (Zez a.rules e first) /\ O = []) := by
 have hn := hS.nr
 have hst := fun w' (hw : Bel w.heap.size w w') => ZfX Ar Az Al As cr cz cl cs a e w' (hA.up hw) hn
 have hh0 := fun w' => ZjO e.off 0 hE.off ⟨by decide, by decide⟩ w'
 have hss := fun w' (hw : Bel w.heap.size w w') => ZhN Ar Az Al As cr cz cl cs a e w' (hA.up hw) hn
 have hun := fun w' => Znd e w'
 have hRs : ∀ r ∈ Za5 a.rules e, r ∈ a.rules := fun r h => ZfN h
 have hRl := ZhT a.rules e
 have hS64 := ZhO (fun r h => hV.i64 r h) hE.save
 have hfc := fun A3 c3 w' (hw : Bel w.heap.size w w') h => ZnS e A3 c3 (Za5 a.rules e) w' (hL.up hw) h hE.off hE.save (fun r hr => hV.i64 r (hRs r hr)) (by omega) hE.fmt (fun r hr => (hS.rs r (hRs r hr)).2)
 unfold Zez
 rw [show (fun x : Int × ByteArray => !Zb7 e.off x.1) = offB e.off from rfl]
 generalize Za5 a.rules e = R at *
 generalize ZaN a.rules e = S at *
 generalize Zgx e = un at *
 generalize Zig e R = fc at *
 obtain ⟨off, kind, save, set, format, til⟩ := e
 have ho := hE.off
 have hki := hE.kind
 have hcn := fun A5 c5 (b4 : Nat) (cells : List Value) w' (h : RdSl w' A5 c5 Zb4 2 S) (h4 : Zal w' ⟨b4, 0, none⟩ (.int .i64 off :: cells)) => ZiC A5 c5 S 181 [] [.pointer (some ⟨b4, 0, none⟩)] (offB off) w' h (fun x hx w2 hw2 => by
  have hc0 : w'.cell? ⟨b4, 0, none⟩ = some (.int .i64 off) := by
   have := h4 0 _ rfl
   rwa [ZbY] at this
  exact ZsW x ⟨b4, 0, none⟩ off w2 ((hw2.cell (World.block_lt_of_cell? w' _ hc0)).trans hc0) ho (hS64 x hx))
 replace hcn := fun A5 c5 w' h {b4 cells} h4 => hcn A5 c5 b4 cells w' h h4
 dsimp only at hst hh0 hss hun hfc ho hki ⊢
 simp only [DEra.enc] at hst hss hun hfc ⊢
 obtain ⟨an, han⟩ : ∃ an, S.any (offB off) = an := ⟨_, rfl⟩
 rw [han] at hcn ⊢
 generalize Zb7 off 0 = h0 at *
 clear hS64 han hE
 refine Zab Tryz.func140 rfl rfl rfl rfl ?_
 by_cases hlo : kind < 0
 ·have b1 : decide (kind < 0) = true := decide_eq_true hlo
  rw [if_pos (.inl hlo)]
  repeat (first | refine und ?_ | (apply RL_pu; rfl; exact ZoA) | (apply RD_Q; rfl; rfl; decide +kernel; rfl; rfl; exact QyAccG0) | refine walk1 ?_ | (refine jn ?_; (try intro F); (first | (refine bx ?_; intro bk) | (apply Zae; first | exact ZoA | exact PuA)); first | refine ⟨_, EndsA, QFAccG0, ?_⟩ | refine fin ?_))
  exact rtA
 by_cases hhi : 2 < kind
 ·have b1 : decide (kind < 0) = false := decide_eq_false hlo
  have b2 : decide (2 < kind) = true := decide_eq_true hhi
  rw [if_pos (.inr hhi)]
  repeat (first | refine und ?_ | (apply RL_pu; rfl; exact Zut) | (apply RD_Q; rfl; rfl; decide +kernel; rfl; rfl; exact QyAccG1) | refine walk1 ?_ | (refine jn ?_; (try intro F); (first | (refine bx ?_; intro bk) | (apply Zae; first | exact Zut | exact PuA)); first | refine ⟨_, EndsA, QFAccG1, ?_⟩ | refine fin ?_))
  exact rtA
 rw [if_neg (by omega)]
 obtain rfl | rfl | rfl : kind = 0 \/ kind = 1 \/ kind = 2 := by omega
 ·cases first
  all_goals
   rw [if_neg (by rintro ⟨h1, h2⟩; first | (cases h1; done) | (cases h2; done)), if_neg (by rintro ⟨h, _⟩; cases h), if_neg (by rintro ⟨h, _⟩; cases h)]
  all_goals
   cases h0 <;> first | rw [if_pos (Or.inl rfl)] | (cases an <;> first | rw [if_pos (Or.inr rfl)] | (rw [if_neg (by rintro (h | h) <;> cases h)]; cases un <;> first | rw [if_pos rfl] | rw [if_neg (by decide)]))
  all_goals
   repeat (first | refine und ?_ | refine walk ?_ | (refine jg ?_; (try intro F); (first | (apply Zag (h := fun w' hw _ => hst w' hw); rfl; rintro v O' ⟨A3, c3, rfl, rfl⟩) | (refine Zac (fun w' hw => hh0 w') ?_) | (apply Zag (h := fun w' hw _ => hss w' hw); rfl; rintro v O' ⟨A5, c5, rfl, rfl⟩) | (refine ZaV (fun w' hw hO => hcn A5 c5 w' (Zbj Zb4.len (hO.of (A := .row (.slice A5 S.length c5) 151 2 S.length (S.flatMap Zb4)) (by repeat' constructor))) (hO.cells (by repeat' constructor))) ?_) | (refine Zac (fun w' hw => hun w') ?_) | (refine ZaV (fun w' hw hO => hfc A3 c3 w' hw (Zbj Zaa.len (hO.of (A := .row (.slice A3 R.length c3) 82 11 R.length (R.flatMap Zaa.enc)) (by repeat' constructor)))) ?_) | (refine bx ?_; intro bk)); refine fin ?_) | (refine jn ?_; (try intro F); (first | (refine bx ?_; intro bk) | (apply Zae; exact PuA)); refine fin ?_))
   exact rtA
 ·rw [if_neg (by rintro ⟨_, h⟩; cases h), if_neg (by rintro ⟨h, _⟩; cases h)]
  by_cases hs1 : save < 1
  ·have s1 : decide (save < 1) = true := decide_eq_true hs1
   rw [if_pos ⟨rfl, .inl hs1⟩]
   cases first
   all_goals
    repeat (first | refine und ?_ | (apply RL_pu; rfl; exact Zoz) | (apply RD_Q; rfl; rfl; decide +kernel; rfl; rfl; exact QyAccG2) | refine walk1 ?_ | (refine jn ?_; (try intro F); (first | (refine bx ?_; intro bk) | (apply Zae; first | exact Zoz | exact PuA)); first | refine ⟨_, EndsA, QFAccG2, ?_⟩ | refine fin ?_))
    exact rtA
  have s1 : decide (save < 1) = false := decide_eq_false hs1
  by_cases hs2 : 10800 < save
  ·have s2 : decide (10800 < save) = true := decide_eq_true hs2
   rw [if_pos ⟨rfl, .inr hs2⟩]
   cases first
   all_goals
    repeat (first | refine und ?_ | (apply RL_pu; rfl; exact Zi9) | (apply RD_Q; rfl; rfl; decide +kernel; rfl; rfl; exact Zol) | refine walk1 ?_ | (refine jn ?_; (try intro F); (first | (refine bx ?_; intro bk) | (apply Zae; first | exact Zi9 | exact PuA)); first | refine ⟨_, EndsA, Zom, ?_⟩ | refine fin ?_))
    exact rtA
  have s2 : decide (10800 < save) = false := decide_eq_false hs2
  rw [if_neg (by omega)]
  cases first
  all_goals
   cases h0 <;> first | rw [if_pos (Or.inl rfl)] | (cases an <;> first | rw [if_pos (Or.inr rfl)] | (rw [if_neg (by rintro (h | h) <;> cases h)]; cases un <;> first | rw [if_pos rfl] | rw [if_neg (by decide)]))
  all_goals
   repeat (first | refine und ?_ | (apply RL_pu; rfl; exact Zi9) | (apply RD_Q; rfl; rfl; decide +kernel; rfl; rfl; exact Zol) | refine walk1 ?_ | (refine jg ?_; (try intro F); (first | (apply Zag (h := fun w' hw _ => hst w' hw); rfl; rintro v O' ⟨A3, c3, rfl, rfl⟩) | (refine Zac (fun w' hw => hh0 w') ?_) | (apply Zag (h := fun w' hw _ => hss w' hw); rfl; rintro v O' ⟨A5, c5, rfl, rfl⟩) | (refine ZaV (fun w' hw hO => hcn A5 c5 w' (Zbj Zb4.len (hO.of (A := .row (.slice A5 S.length c5) 151 2 S.length (S.flatMap Zb4)) (by repeat' constructor))) (hO.cells (by repeat' constructor))) ?_) | (refine Zac (fun w' hw => hun w') ?_) | (refine ZaV (fun w' hw hO => hfc A3 c3 w' hw (Zbj Zaa.len (hO.of (A := .row (.slice A3 R.length c3) 82 11 R.length (R.flatMap Zaa.enc)) (by repeat' constructor)))) ?_) | (refine bx ?_; intro bk)); first | refine ⟨_, EndsA, Zom, ?_⟩ | refine fin ?_) | (refine jn ?_; (try intro F); (first | (refine bx ?_; intro bk) | (apply Zae; first | exact Zi9 | exact PuA)); first | refine ⟨_, EndsA, Zom, ?_⟩ | refine fin ?_))
   exact rtA
 ·cases first with
  | true =>
   rw [if_pos ⟨rfl, rfl⟩]
   repeat (first | refine und ?_ | refine walk ?_ | (refine jn ?_; (try intro F); (first | (refine bx ?_; intro bk) | (apply Zae; exact PuA)); refine fin ?_))
   exact rtA
  | false =>
   rw [if_neg (by rintro ⟨h, _⟩; cases h)]
   by_cases hR : R = []
   ·have r0 : decide ((R.length : Int) = 0) = true := by rw [hR]; rfl
    rw [if_pos ⟨rfl, hR⟩]
    repeat (first | refine und ?_ | (apply RL_pu; rfl; exact Zi8) | (apply RD_Q; rfl; rfl; decide +kernel; rfl; rfl; exact Zok) | refine walk1 ?_ | (refine jg ?_; (try intro F); (first | (apply Zag (h := fun w' hw _ => hst w' hw); rfl; rintro v O' ⟨A3, c3, rfl, rfl⟩) | (refine bx ?_; intro bk)); first | refine ⟨_, EndsA, Zk5, ?_⟩ | refine fin ?_) | (refine jn ?_; (try intro F); (first | (refine bx ?_; intro bk) | (apply Zae; first | exact Zi8 | exact PuA)); first | refine ⟨_, EndsA, Zk5, ?_⟩ | refine fin ?_))
    exact rtA
   have r0 : decide ((R.length : Int) = 0) = false := decide_eq_false (fun h => hR (List.eq_nil_of_length_eq_zero (by omega)))
   rw [if_neg (fun h => hR h.2), if_neg (by rintro ⟨h, _⟩; cases h)]
   cases h0 <;> first | rw [if_pos (Or.inl rfl)] | (cases an <;> first | rw [if_pos (Or.inr rfl)] | (rw [if_neg (by rintro (h | h) <;> cases h)]; cases un <;> first | rw [if_pos rfl] | rw [if_neg (by decide)]))
   all_goals
    repeat (first | refine und ?_ | (apply RL_pu; rfl; exact Zi8) | (apply RD_Q; rfl; rfl; decide +kernel; rfl; rfl; exact Zok) | refine walk1 ?_ | (refine jg ?_; (try intro F); (first | (apply Zag (h := fun w' hw _ => hst w' hw); rfl; rintro v O' ⟨A3, c3, rfl, rfl⟩) | (refine Zac (fun w' hw => hh0 w') ?_) | (apply Zag (h := fun w' hw _ => hss w' hw); rfl; rintro v O' ⟨A5, c5, rfl, rfl⟩) | (refine ZaV (fun w' hw hO => hcn A5 c5 w' (Zbj Zb4.len (hO.of (A := .row (.slice A5 S.length c5) 151 2 S.length (S.flatMap Zb4)) (by repeat' constructor))) (hO.cells (by repeat' constructor))) ?_) | (refine Zac (fun w' hw => hun w') ?_) | (refine ZaV (fun w' hw hO => hfc A3 c3 w' hw (Zbj Zaa.len (hO.of (A := .row (.slice A3 R.length c3) 82 11 R.length (R.flatMap Zaa.enc)) (by repeat' constructor)))) ?_) | (refine bx ?_; intro bk)); first | refine ⟨_, EndsA, Zk5, ?_⟩ | refine fin ?_) | (refine jn ?_; (try intro F); (first | (refine bx ?_; intro bk) | (apply Zae; first | exact Zi8 | exact PuA)); first | refine ⟨_, EndsA, Zk5, ?_⟩ | refine fin ?_))
    exact rtA
end Go.Proofs.YtdlmhmmhdbbliaaGreatDoor
namespace Go.Wk
open Go Go.RowKit
theorem Zon {P : Program} {n : Nat} {wr : World} {fr : Fr} {O : List It} {ty t t' : TypeId} {x y : Operand} {i j m : Int} (hx : ev fr x = some (.int .i64 i)) (hy : ev fr y = some (.int .i64 j)) (hm : i - j = m) (h : -9223372036854775808 <= m /\ m <= 9223372036854775807) : Pu P n wr fr O (.binOp .sub t x y t') ty (.int .i64 m) := hm ▸ Pu_sub' hx hy (hm ▸ h)
end Go.Wk
namespace Go.Proofs.YtdlmhmmhdbbliaaGreatDoor
open Go Go.RowKit Go.Wk
attribute [local irreducible] W RL Does Zau Zaj retQ Calls Pu Stp RD Qy Ay Zak
theorem Zsg (u : ZaT) (least : Int) : -200000000000000000 <= (ZaE u least).1 /\ (ZaE u least).1 <= 200000000000000000 := by
 unfold ZaE
 split
 ·exact ⟨by dsimp only; omega, by dsimp only; omega⟩
 ·rename_i h
  have h0 : ZaR u least = 0 := Decidable.not_not.1 h
  have hb := Zg6 u.year u.month u.day
  unfold ZaR at h0
  dsimp only at h0 ⊢
  repeat' split at h0
  all_goals first | (exfalso; omega) | (split <;> omega)
theorem Zyy {u : ZaT} {least : Int} (h : ZaR u least = 0) : (ZaE u least).2 = 0 := by
 unfold ZaE
 rw [if_neg (fun hh => hh h)]
theorem ZuI {w : World} {ad : Addr} {e : DEra} (h : Zal w ad e.enc) : Zal w (ad.add 5) (ZaT.enc e.til) := fun j v hj => by
 rw [ZaZ]
 refine h (5 + j) v ?_
 rw [show DEra.enc e = [.int .i64 e.off, .int .i64 e.kind, .int .i64 e.save, .string e.set, .string e.format] ++ ZaT.enc e.til from rfl, List.getElem?_append_right (by simp)]
 simpa using hj
theorem Zk2.rs {s : Zai} (h : Zk2 s) (e : DEra) : RsOk (Za5 s.rules e) := fun r hr => h r (ZfN hr)
theorem Zd5 {G : Prop} (h : G := by (first | exact PuI | (apply Pu_loadON; rfl; exact hcu; rfl) | (apply Zon; rfl; rfl; exact hln; omega) | (apply Zon; rfl; rfl; exact hkj; omega) | (apply Zbg; rfl; rfl; exact hdl))) : G := h
theorem Zoj {G : Prop} (h : G := by first | (apply Qy_y; rfl; exact Zd5) | exact QyA) : G := h
theorem Zdk {G : Prop} (h : G := by repeat (first | exact QF.nil | (apply QF.mk; rfl; rfl; decide +kernel; exact Zoj))) : G := h
theorem Znc {G G' : Prop} (k : G') (h : Hold G' -> G := by intro k9; (first | refine und ?_ | (apply RL_pu; rfl; exact Zd5) | (apply RD_Q; rfl; rfl; decide +kernel; rfl; rfl; exact Zoj) | refine walk1 ?_ | (refine jn ?_; (try intro F); (first | (refine stA ?_) | (apply Zae; first | exact Zd5 | exact PuA)); first | refine ⟨_, EndsA, Zdk, ?_⟩ | refine fin ?_)); exact k9.out) : G := h ⟨k⟩
theorem Zrv {G G' : Prop} (k : G') (h : Hold G' -> G := by intro k9; (first | refine und ?_ | (apply RL_pu; rfl; exact Zd5) | (apply RD_Q; rfl; rfl; decide +kernel; rfl; rfl; exact Zoj) | refine walk1 ?_ | (refine jg ?_; (try intro F); (first | (refine ZaV (fun w' hw hO => hle A3 c3 w' (Zbj Zaa.len (hO.of (A := .row (.slice A3 R.length c3) 82 11 R.length (R.flatMap Zaa.enc)) (by repeat' constructor)))) ?_) | (refine Zac huc ?_) | (refine Zac hno ?_) | (refine ZaV (fun w' hw hO => hfa A3 c3 w' hw (Zbj Zaa.len (hO.of (A := .row (.slice A3 R.length c3) 82 11 R.length (R.flatMap Zaa.enc)) (by repeat' constructor)))) ?_) | (refine stA ?_)); first | refine ⟨_, EndsA, Zdk, ?_⟩ | refine fin ?_) | (refine jn ?_; (try intro F); (first | (refine stA ?_) | (apply Zae; first | exact Zd5 | exact PuA)); first | refine ⟨_, EndsA, Zdk, ?_⟩ | refine fin ?_)); exact k9.out) : G := h ⟨k⟩
theorem Zoy {G : Prop} (h : G := by (first | exact Zd5 | (apply ZaC; rfl; rfl; exact bk2))) : G := h
theorem ZtI {G : Prop} (h : G := by first | (apply Qy_y; rfl; exact Zoy) | exact QyA) : G := h
theorem ZtO {G : Prop} (h : G := by repeat (first | exact QF.nil | (apply QF.mk; rfl; rfl; decide +kernel; exact ZtI))) : G := h
theorem Zlh {G : Prop} (h : G := by (first | exact Zd5 | (apply ZaM; rfl; rfl; exact bj) | (apply Zon; rfl; rfl; exact hdf; omega) | (apply Zbg; rfl; rfl; exact b3))) : G := h
theorem ZtH {G : Prop} (h : G := by first | (apply Qy_y; rfl; exact Zlh) | exact QyA) : G := h
theorem ZeG {G : Prop} (h : G := by repeat (first | exact QF.nil | (apply QF.mk; rfl; rfl; decide +kernel; exact ZtH))) : G := h
theorem Znb {G G' : Prop} (k : G') (h : Hold G' -> G := by intro k9; (first | refine und ?_ | (apply RL_pu; rfl; exact Zlh) | (apply RD_Q; rfl; rfl; decide +kernel; rfl; rfl; exact ZtH) | refine walk1 ?_ | (refine jg ?_; (try intro F); (first | (refine ZaV (fun w' hw hO => hle A3 c3 w' (Zbj Zaa.len (hO.of (A := .row (.slice A3 R.length c3) 82 11 R.length (R.flatMap Zaa.enc)) (by repeat' constructor)))) ?_) | (refine Zac huc ?_) | (refine Zac hno ?_) | (refine ZaV (fun w' hw hO => hfa A3 c3 w' hw (Zbj Zaa.len (hO.of (A := .row (.slice A3 R.length c3) 82 11 R.length (R.flatMap Zaa.enc)) (by repeat' constructor)))) ?_) | (refine ZaV (fun w' hw hO => hle2 A4 c4 w' (Zbj Zaa.len (hO.of (A := .row (.slice A4 R2.length c4) 82 11 R2.length (R2.flatMap Zaa.enc)) (by repeat' constructor)))) ?_) | (refine Zac hno2 ?_) | (refine stA ?_)); first | refine ⟨_, EndsA, ZeG, ?_⟩ | refine fin ?_) | (refine jn ?_; (try intro F); (first | (refine stA ?_) | (apply Zae; first | exact Zlh | exact PuA)); first | refine ⟨_, EndsA, ZeG, ?_⟩ | refine fin ?_)); exact k9.out) : G := h ⟨k⟩
theorem Zox {G : Prop} (h : G := by (first | exact Zlh | (apply ZaC; rfl; rfl; exact bk2))) : G := h
theorem ZtG {G : Prop} (h : G := by first | (apply Qy_y; rfl; exact Zox) | exact QyA) : G := h
theorem ZtN {G : Prop} (h : G := by repeat (first | exact QF.nil | (apply QF.mk; rfl; rfl; decide +kernel; exact ZtG))) : G := h
theorem Zow {G : Prop} (h : G := by (first | exact Zd5 | (apply ZaM; rfl; rfl; exact bj) | (apply ZaD; rfl; rfl; exact b2))) : G := h
theorem ZtF {G : Prop} (h : G := by first | (apply Qy_y; rfl; exact Zow) | exact QyA) : G := h
theorem ZtM {G : Prop} (h : G := by repeat (first | exact QF.nil | (apply QF.mk; rfl; rfl; decide +kernel; exact ZtF))) : G := h
theorem Zov {G : Prop} (h : G := by (first | exact Zd5 | (apply ZaD; rfl; rfl; exact bu))) : G := h
theorem ZtE {G : Prop} (h : G := by first | (apply Qy_y; rfl; exact Zov) | exact QyA) : G := h
theorem ZtL {G : Prop} (h : G := by repeat (first | exact QF.nil | (apply QF.mk; rfl; rfl; decide +kernel; exact ZtE))) : G := h
set_option maxHeartbeats 2000000 in
theorem Zsw (Ar Az Al As : Option Addr) (cr cz cl cs : Nat) (a : Zai) (Ae : Option Addr) (ce : Nat) (eras : List DEra) (k : Nat) (w : World) (hG : Glob w) (hA : Zat w Ar Az Al As cr cz cl cs a) (hS : Zhr a) (hV : Zk2 a)
  (hE : RdSl w Ae ce DEra.enc 13 eras) (hel : eras.length <= 1000000) (hk : k < eras.length) :
  Does Tryz.prog 141 [srcV Ar Az Al As cr cz cl cs a, .slice Ae eras.length ce, .int .i64 k] w (fun v O => v = .int .i64 (Zix a.rules eras k) /\ O = []) := by
 have hn := hS.nr
 obtain ⟨hna, hca⟩ := hE.rd k _ (List.getElem?_eq_getElem hk)
 have hgd : eras.getD k dE0 = eras[k] := by rw [List.getD_eq_getElem?_getD, List.getElem?_eq_getElem hk]; rfl
 unfold Zix
 rw [hgd]
 dsimp only
 generalize eras[k] = e at *
 have hst := fun w' (hw : Bel w.heap.size w w') => ZfX Ar Az Al As cr cz cl cs a e w' (hA.up hw) hn
 have hle := fun A3 c3 w' h => ZcK A3 c3 (Za5 a.rules e) w' h
 have hRl := ZhT a.rules e
 have hRs := hV.rs e
 have huc := fun w' (hw : Bel w.heap.size w w') => ZhG e.til (Zah (Za5 a.rules e)) w' (hG.up hw)
 have hno := fun w' (hw : Bel w.heap.size w w') => Zem e.til (Zah (Za5 a.rules e)) w' (hG.up hw)
 have hnb := Zsg e.til (Zah (Za5 a.rules e))
 have hn0 := @Zyy e.til (Zah (Za5 a.rules e))
 have hfa := fun A3 c3 w' (hw : Bel w.heap.size w w') h => Zvz A3 c3 (Za5 a.rules e) (ZaE e.til (Zah (Za5 a.rules e))).1 w' (hG.up hw) h (by omega) hRs (by omega)
 generalize Za5 a.rules e = R at *
 generalize hLT : Zah R = least at *
 generalize ZaR e.til least = uc at *
 generalize farD R (ZaE e.til least).1 = fr at *
 generalize ZaE e.til least = nm at *
 obtain ⟨n, ne⟩ := nm
 dsimp only at hno hnb hn0 hfa ⊢
 obtain ⟨off, kind, save, set, format, til⟩ := e
 dsimp only at huc hno hst ⊢
 simp only [DEra.enc] at hst hca
 obtain ⟨is, year, month, ⟨dk, dw, dd⟩, ⟨us, ub⟩⟩ := til
 dsimp only at hst hca ⊢
 simp only [ZaT.enc] at huc hno
 obtain ⟨ln, hln⟩ : ∃ ln : Int, (eras.length : Int) - 1 = ln := ⟨_, rfl⟩
 have hdl : decide ((k : Int) < ln) = decide (k + 1 < eras.length) := by rw [decide_eq_decide]; omega
 generalize hlt : decide (k + 1 < eras.length) = lt at *
 refine Zab Tryz.func141 rfl rfl rfl rfl ?_
 have hcb := hca
 have hcu := hca
 have hkj : (k : Int) - 0 = k := by omega
 cases is with
 | false =>
  cases lt with
  | true =>
   rw [if_pos (by decide)]
   repeat (first | refine Znc ?_ | (refine jn ?_; (try intro F); (refine bx ?_; intro bk); first | refine ⟨_, EndsA, Zdk, ?_⟩ | refine fin ?_) | (apply RD_W; rfl; intro bk))
   exact rtA
  | false =>
   rw [if_neg (by decide), if_pos rfl]
   repeat (first | refine Znc ?_ | (refine jn ?_; (try intro F); (refine bx ?_; intro bk); first | refine ⟨_, EndsA, Zdk, ?_⟩ | refine fin ?_) | (apply RD_W; rfl; intro bk))
   exact rtA
 | true =>
 cases lt with
 | false =>
  rw [if_pos (by decide)]
  repeat (first | refine Znc ?_ | (refine jn ?_; (try intro F); (refine bx ?_; intro bk); first | refine ⟨_, EndsA, Zdk, ?_⟩ | refine fin ?_) | (apply RD_W; rfl; intro bk))
  exact rtA
 | true =>
 rw [if_neg (by decide), if_neg (by decide)]
 by_cases hu : uc = 0
 ·rw [if_neg (fun h => h hu)]
  have hne : ne = 0 := hn0 hu
  subst hu hne
  cases k with
  | zero =>
   rw [if_neg (by rintro ⟨h, _⟩; omega)]
   clear hcb hcu
   by_cases hk2 : kind = 2
   ·subst hk2
    cases fr with
    | false =>
     rw [if_pos ⟨rfl, rfl⟩]
     repeat (first | refine Zrv ?_ | (refine jg ?_; (try intro F); (first | (apply Zag (h := fun w' hw _ => hst w' hw); rfl; rintro v O' ⟨A3, c3, rfl, rfl⟩) | (refine bx ?_; intro bk)); first | refine ⟨_, EndsA, Zdk, ?_⟩ | refine fin ?_) | (refine jn ?_; (try intro F); (refine bx ?_; intro bk); first | refine ⟨_, EndsA, Zdk, ?_⟩ | refine fin ?_) | (apply RD_W; rfl; intro bk))
     exact rtA
    | true =>
     rw [if_neg (by rintro ⟨_, h⟩; cases h)]
     repeat (first | refine Zrv ?_ | (refine jg ?_; (try intro F); (first | (apply Zag (h := fun w' hw _ => hst w' hw); rfl; rintro v O' ⟨A3, c3, rfl, rfl⟩) | (refine bx ?_; intro bk)); first | refine ⟨_, EndsA, Zdk, ?_⟩ | refine fin ?_) | (refine jn ?_; (try intro F); (refine bx ?_; intro bk); first | refine ⟨_, EndsA, Zdk, ?_⟩ | refine fin ?_) | (apply RD_W; rfl; intro bk))
     exact rtA
   ·have bk2 : decide (kind = 2) = false := decide_eq_false hk2
    rw [if_neg (fun h => hk2 h.1)]
    repeat (first | refine und ?_ | (apply RL_pu; rfl; exact Zoy) | (apply RD_Q; rfl; rfl; decide +kernel; rfl; rfl; exact ZtI) | refine walk1 ?_ | (refine jg ?_; (try intro F); (first | (apply Zag (h := fun w' hw _ => hst w' hw); rfl; rintro v O' ⟨A3, c3, rfl, rfl⟩) | (refine ZaV (fun w' hw hO => hle A3 c3 w' (Zbj Zaa.len (hO.of (A := .row (.slice A3 R.length c3) 82 11 R.length (R.flatMap Zaa.enc)) (by repeat' constructor)))) ?_) | (refine Zac huc ?_) | (refine Zac hno ?_) | (refine ZaV (fun w' hw hO => hfa A3 c3 w' hw (Zbj Zaa.len (hO.of (A := .row (.slice A3 R.length c3) 82 11 R.length (R.flatMap Zaa.enc)) (by repeat' constructor)))) ?_) | (refine bx ?_; intro bk) | (refine stA ?_)); first | refine ⟨_, EndsA, ZtO, ?_⟩ | refine fin ?_) | (refine jn ?_; (try intro F); (first | (refine bx ?_; intro bk) | (refine stA ?_) | (apply Zae; first | exact Zoy | exact PuA)); first | refine ⟨_, EndsA, ZtO, ?_⟩ | refine fin ?_) | (apply RD_W; rfl; intro bk))
    exact rtA
  | succ j =>
   have bj : decide ((0 : Int) < ((j + 1 : Nat) : Int)) = true := decide_eq_true (by omega)
   clear hcb hcu hkj
   have hj : j < eras.length := by omega
   obtain ⟨hnb', hcb⟩ := hE.rd j _ (List.getElem?_eq_getElem hj)
   have hgj : eras.getD (j + 1 - 1) dE0 = eras[j] := by rw [Nat.add_sub_cancel, List.getD_eq_getElem?_getD, List.getElem?_eq_getElem hj]; rfl
   rw [hgj]
   generalize eras[j] = b at *
   have hcu := ZuI hcb
   have hkj : ((j + 1 : Nat) : Int) - 1 = (j : Int) := by omega
   have hst2 := fun w' (hw : Bel w.heap.size w w') => ZfX Ar Az Al As cr cz cl cs a b w' (hA.up hw) hn
   have hle2 := fun A3 c3 w' h => ZcK A3 c3 (Za5 a.rules b) w' h
   have hno2 := fun w' (hw : Bel w.heap.size w w') => Zem b.til (Zah (Za5 a.rules b)) w' (hG.up hw)
   have hnb2 := Zsg b.til (Zah (Za5 a.rules b))
   generalize Za5 a.rules b = R2 at *
   generalize Zah R2 = least2 at *
   generalize ZaE b.til least2 = nm2 at *
   obtain ⟨n2, ne2⟩ := nm2
   obtain ⟨off2, ZyF, save2, set2, format2, ⟨is2, year2, month2, ⟨dk2, dw2, dd2⟩, ⟨us2, ub2⟩⟩⟩ := b
   dsimp only at hno2 hnb2 hst2 hcu ⊢
   simp only [DEra.enc] at hst2 hcb
   simp only [ZaT.enc] at hno2 hcu
   by_cases h2 : ne2 = 0
   ·subst h2
    obtain ⟨df, hdf⟩ : ∃ df, n - n2 = df := ⟨_, rfl⟩
    rw [hdf]
    by_cases h3 : df < 259200
    ·have b3 : decide (df < 259200) = true := decide_eq_true h3
     rw [if_pos ⟨by omega, .inr h3⟩]
     repeat (first | refine Znb ?_ | (refine jg ?_; (try intro F); (first | (apply Zag (h := fun w' hw _ => hst w' hw); rfl; rintro v O' ⟨A3, c3, rfl, rfl⟩) | (apply Zag (h := fun w' hw _ => hst2 w' hw); rfl; rintro v O' ⟨A4, c4, rfl, rfl⟩) | (refine bx ?_; intro bk)); first | refine ⟨_, EndsA, ZeG, ?_⟩ | refine fin ?_) | (refine jn ?_; (try intro F); (refine bx ?_; intro bk); first | refine ⟨_, EndsA, ZeG, ?_⟩ | refine fin ?_) | (apply RD_W; rfl; intro bk))
     exact rtA
    ·have b3 : decide (df < 259200) = false := decide_eq_false h3
     rw [if_neg (by rintro ⟨_, h | h⟩; exact h rfl; exact h3 h)]
     by_cases hk2 : kind = 2
     ·subst hk2
      cases fr with
      | false =>
       rw [if_pos ⟨rfl, rfl⟩]
       repeat (first | refine Znb ?_ | (refine jg ?_; (try intro F); (first | (apply Zag (h := fun w' hw _ => hst w' hw); rfl; rintro v O' ⟨A3, c3, rfl, rfl⟩) | (apply Zag (h := fun w' hw _ => hst2 w' hw); rfl; rintro v O' ⟨A4, c4, rfl, rfl⟩) | (refine bx ?_; intro bk)); first | refine ⟨_, EndsA, ZeG, ?_⟩ | refine fin ?_) | (refine jn ?_; (try intro F); (refine bx ?_; intro bk); first | refine ⟨_, EndsA, ZeG, ?_⟩ | refine fin ?_) | (apply RD_W; rfl; intro bk))
       exact rtA
      | true =>
       rw [if_neg (by rintro ⟨_, h⟩; cases h)]
       repeat (first | refine Znb ?_ | (refine jg ?_; (try intro F); (first | (apply Zag (h := fun w' hw _ => hst w' hw); rfl; rintro v O' ⟨A3, c3, rfl, rfl⟩) | (apply Zag (h := fun w' hw _ => hst2 w' hw); rfl; rintro v O' ⟨A4, c4, rfl, rfl⟩) | (refine bx ?_; intro bk)); first | refine ⟨_, EndsA, ZeG, ?_⟩ | refine fin ?_) | (refine jn ?_; (try intro F); (refine bx ?_; intro bk); first | refine ⟨_, EndsA, ZeG, ?_⟩ | refine fin ?_) | (apply RD_W; rfl; intro bk))
       exact rtA
     ·have bk2 : decide (kind = 2) = false := decide_eq_false hk2
      rw [if_neg (fun h => hk2 h.1)]
      repeat (first | refine und ?_ | (apply RL_pu; rfl; exact Zox) | (apply RD_Q; rfl; rfl; decide +kernel; rfl; rfl; exact ZtG) | refine walk1 ?_ | (refine jg ?_; (try intro F); (first | (apply Zag (h := fun w' hw _ => hst w' hw); rfl; rintro v O' ⟨A3, c3, rfl, rfl⟩) | (refine ZaV (fun w' hw hO => hle A3 c3 w' (Zbj Zaa.len (hO.of (A := .row (.slice A3 R.length c3) 82 11 R.length (R.flatMap Zaa.enc)) (by repeat' constructor)))) ?_) | (refine Zac huc ?_) | (refine Zac hno ?_) | (refine ZaV (fun w' hw hO => hfa A3 c3 w' hw (Zbj Zaa.len (hO.of (A := .row (.slice A3 R.length c3) 82 11 R.length (R.flatMap Zaa.enc)) (by repeat' constructor)))) ?_) | (apply Zag (h := fun w' hw _ => hst2 w' hw); rfl; rintro v O' ⟨A4, c4, rfl, rfl⟩) | (refine ZaV (fun w' hw hO => hle2 A4 c4 w' (Zbj Zaa.len (hO.of (A := .row (.slice A4 R2.length c4) 82 11 R2.length (R2.flatMap Zaa.enc)) (by repeat' constructor)))) ?_) | (refine Zac hno2 ?_) | (refine bx ?_; intro bk) | (refine stA ?_)); first | refine ⟨_, EndsA, ZtN, ?_⟩ | refine fin ?_) | (refine jn ?_; (try intro F); (first | (refine bx ?_; intro bk) | (refine stA ?_) | (apply Zae; first | exact Zox | exact PuA)); first | refine ⟨_, EndsA, ZtN, ?_⟩ | refine fin ?_) | (apply RD_W; rfl; intro bk))
      exact rtA
   ·have b2 : (!decide (ne2 = 0)) = true := by rw [decide_eq_false h2]; rfl
    rw [if_pos ⟨by omega, .inl h2⟩]
    repeat (first | refine und ?_ | (apply RL_pu; rfl; exact Zow) | (apply RD_Q; rfl; rfl; decide +kernel; rfl; rfl; exact ZtF) | refine walk1 ?_ | (refine jg ?_; (try intro F); (first | (apply Zag (h := fun w' hw _ => hst w' hw); rfl; rintro v O' ⟨A3, c3, rfl, rfl⟩) | (refine ZaV (fun w' hw hO => hle A3 c3 w' (Zbj Zaa.len (hO.of (A := .row (.slice A3 R.length c3) 82 11 R.length (R.flatMap Zaa.enc)) (by repeat' constructor)))) ?_) | (refine Zac huc ?_) | (refine Zac hno ?_) | (refine ZaV (fun w' hw hO => hfa A3 c3 w' hw (Zbj Zaa.len (hO.of (A := .row (.slice A3 R.length c3) 82 11 R.length (R.flatMap Zaa.enc)) (by repeat' constructor)))) ?_) | (apply Zag (h := fun w' hw _ => hst2 w' hw); rfl; rintro v O' ⟨A4, c4, rfl, rfl⟩) | (refine ZaV (fun w' hw hO => hle2 A4 c4 w' (Zbj Zaa.len (hO.of (A := .row (.slice A4 R2.length c4) 82 11 R2.length (R2.flatMap Zaa.enc)) (by repeat' constructor)))) ?_) | (refine Zac hno2 ?_) | (refine bx ?_; intro bk) | (refine stA ?_)); first | refine ⟨_, EndsA, ZtM, ?_⟩ | refine fin ?_) | (refine jn ?_; (try intro F); (first | (refine bx ?_; intro bk) | (refine stA ?_) | (apply Zae; first | exact Zow | exact PuA)); first | refine ⟨_, EndsA, ZtM, ?_⟩ | refine fin ?_) | (apply RD_W; rfl; intro bk))
    exact rtA
 ·rw [if_pos hu]
  have bu : (!decide (uc = 0)) = true := by rw [decide_eq_false hu]; rfl
  repeat (first | refine und ?_ | (apply RL_pu; rfl; exact Zov) | (apply RD_Q; rfl; rfl; decide +kernel; rfl; rfl; exact ZtE) | refine walk1 ?_ | (refine jg ?_; (try intro F); (first | (apply Zag (h := fun w' hw _ => hst w' hw); rfl; rintro v O' ⟨A3, c3, rfl, rfl⟩) | (refine ZaV (fun w' hw hO => hle A3 c3 w' (Zbj Zaa.len (hO.of (A := .row (.slice A3 R.length c3) 82 11 R.length (R.flatMap Zaa.enc)) (by repeat' constructor)))) ?_) | (refine Zac huc ?_) | (refine bx ?_; intro bk) | (refine stA ?_)); first | refine ⟨_, EndsA, ZtL, ?_⟩ | refine fin ?_) | (refine jn ?_; (try intro F); (first | (refine bx ?_; intro bk) | (refine stA ?_) | (apply Zae; first | exact Zov | exact PuA)); first | refine ⟨_, EndsA, ZtL, ?_⟩ | refine fin ?_) | (apply RD_W; rfl; intro bk))
  exact rtA
end Go.Proofs.YtdlmhmmhdbbliaaGreatDoor
namespace Go.Wk
open Go Go.RowKit
section
variable {κ : Type}
def cent (kv : κ -> Value) : Nat -> List (κ × Int) -> List MapEntry
 | _, [] => []
 | i, x :: l => ⟨kv x.1, .int .i64 x.2, i⟩ :: cent kv (i + 1) l
def Zg0 (l : List (κ × Int)) (t : Nat) : Prop := ∀ x ∈ l, 1 <= x.2 /\ x.2 <= (t : Int)
theorem Zg0.nil (t : Nat) : Zg0 ([] : List (κ × Int)) t := fun _ h => by cases h
theorem Zpr (kv : κ -> Value) : ∀ (i : Nat) (l : List (κ × Int)), (cent kv i l).length = l.length
 | _, [] => rfl
 | i, x :: l => by unfold cent; rw [List.length_cons, List.length_cons, Zpr kv (i + 1) l]
theorem Zpt (kv : κ -> Value) : ∀ (i : Nat) (a b : List (κ × Int)), cent kv i (a ++ b) = cent kv i a ++ cent kv (i + a.length) b
 | _, [], _ => rfl
 | i, x :: a, b => by
  rw [List.cons_append]
  unfold cent
  rw [Zpt kv (i + 1) a b, List.cons_append, List.length_cons, show i + 1 + a.length = i + (a.length + 1) by omega]
  cases b <;> rfl
theorem Zps (kv : κ -> Value) : ∀ (i : Nat) (l : List (κ × Int)) (s : Nat), s < l.length -> (cent kv i l).findIdx? (fun e => (e.born : Int) == ((i + s : Nat) : Int)) = some s
 | _, [], _, h => by simp at h
 | i, x :: l, 0, _ => by unfold cent; rw [List.findIdx?_cons]; simp
 | i, x :: l, s + 1, h => by
  unfold cent
  rw [List.findIdx?_cons]
  have hne : ((i : Int) == ((i + (s + 1) : Nat) : Int)) = false := by simp; omega
  dsimp only
  rw [hne]
  have := Zps kv (i + 1) l s (by simpa using h)
  rw [show i + 1 + s = i + (s + 1) by omega] at this
  rw [this]
  rfl
def cmIt (kv : κ -> Value) (b : Nat) (l : List (κ × Int)) : It := .fact (fun i => i = b) fun w => w.heap[b]? = some (.map (cent kv 0 l).toArray l.length)
theorem cmIt.heap {kv : κ -> Value} {b : Nat} {l : List (κ × Int)} {w : World} (h : (cmIt kv b l).sat w) : w.heap[b]? = some (.map (cent kv 0 l).toArray l.length) := h w fun _ _ => rfl
theorem cmIt.mk {kv : κ -> Value} {b : Nat} {l : List (κ × Int)} {w : World} (h : w.heap[b]? = some (.map (cent kv 0 l).toArray l.length)) : (cmIt kv b l).sat w := fun _ ha => (ha b rfl).trans h
end
section
variable {κ : Type} [DecidableEq κ]
def Zn1 (k : κ) : List (κ × Int) -> Nat -> Option (Nat × Value)
 | [], _ => none
 | x :: l, i => if k = x.1 then some (i, .int .i64 x.2) else Zn1 k l (i + 1)
def cget (k : κ) : List (κ × Int) -> Int
 | [] => 0
 | x :: l => if k = x.1 then x.2 else cget k l
def cins (k : κ) : List (κ × Int) -> List (κ × Int)
 | [] => [(k, 0)]
 | x :: l => if k = x.1 then x :: l else x :: cins k l
def cidx (k : κ) : List (κ × Int) -> Nat
 | [] => 0
 | x :: l => if k = x.1 then 0 else cidx k l + 1
def cput (k : κ) (v : Int) : List (κ × Int) -> List (κ × Int)
 | [] => []
 | x :: l => if k = x.1 then (k, v) :: l else x :: cput k v l
theorem ZkV (k : κ) : ∀ (l : List (κ × Int)) (i : Nat), Zn1 k l i = if k ∈ l.map (·.1) then some (i + cidx k l, .int .i64 (cget k l)) else none
 | [], _ => rfl
 | x :: l, i => by
  unfold Zn1 cidx cget
  by_cases h : k = x.1
  ·rw [if_pos h, if_pos h, if_pos h, if_pos (by rw [h]; simp)]; rfl
  ·rw [if_neg h, if_neg h, if_neg h, ZkV k l (i + 1)]
   by_cases hm : k ∈ l.map (·.1)
   ·rw [if_pos hm, if_pos (show k ∈ (x :: l).map (·.1) from List.mem_cons_of_mem _ hm)]
    congr 2
    omega
   ·rw [if_neg hm, if_neg (show k ∉ (x :: l).map (·.1) from fun hh => (List.mem_cons.1 hh).elim h hm)]
theorem ZkU (k : κ) : ∀ l : List (κ × Int), k ∈ l.map (·.1) -> cins k l = l
 | [], h => by cases h
 | x :: l, h => by
  unfold cins
  by_cases e : k = x.1
  ·rw [if_pos e]
  ·rw [if_neg e, ZkU k l ((List.mem_cons.1 h).resolve_left e)]
theorem Zhz (k : κ) : ∀ l : List (κ × Int), k ∉ l.map (·.1) -> cins k l = l ++ [(k, 0)]
 | [], _ => rfl
 | x :: l, h => by
  unfold cins
  rw [if_neg (fun e => h (by rw [e]; simp)), Zhz k l (fun e => h (List.mem_cons_of_mem _ e))]
  rfl
theorem Zpp (k : κ) : ∀ l : List (κ × Int), k ∉ l.map (·.1) -> cidx k l = l.length
 | [], _ => rfl
 | x :: l, h => by
  unfold cidx
  rw [if_neg (fun e => h (by rw [e]; simp)), Zpp k l (fun e => h (List.mem_cons_of_mem _ e))]
  rfl
theorem ZdY (k : κ) : ∀ l : List (κ × Int), k ∉ l.map (·.1) -> cget k l = 0
 | [], _ => rfl
 | x :: l, h => by
  unfold cget
  rw [if_neg (fun e => h (by rw [e]; simp)), ZdY k l (fun e => h (List.mem_cons_of_mem _ e))]
theorem Zn0 (k : κ) : ∀ l : List (κ × Int), k ∈ l.map (·.1) -> (k, cget k l) ∈ l
 | [], h => by cases h
 | x :: l, h => by
  unfold cget
  by_cases e : k = x.1
  ·rw [if_pos e, e]; exact List.mem_cons_self
  ·rw [if_neg e]
   exact List.mem_cons_of_mem _ (Zn0 k l ((List.mem_cons.1 h).resolve_left e))
theorem ZmC (k : κ) : ∀ l : List (κ × Int), cidx k (cins k l) = cidx k l
 | [] => by simp [cins, cidx]
 | x :: l => by
  unfold cins
  by_cases e : k = x.1
  ·rw [if_pos e]
  ·rw [if_neg e]; unfold cidx; rw [if_neg e, if_neg e, ZmC k l]
theorem ZkT (k : κ) : ∀ l : List (κ × Int), k ∈ (cins k l).map (·.1)
 | [] => by simp [cins]
 | x :: l => by
  unfold cins
  by_cases e : k = x.1
  ·rw [if_pos e, e]; simp
  ·rw [if_neg e]; exact List.mem_cons_of_mem _ (ZkT k l)
theorem ZiB (k : κ) (v : Int) : ∀ l : List (κ × Int), (cput k v l).map (·.1) = l.map (·.1)
 | [] => rfl
 | x :: l => by
  unfold cput
  by_cases e : k = x.1
  ·rw [if_pos e, e]; rfl
  ·rw [if_neg e, List.map_cons, List.map_cons, ZiB k v l]
theorem ZvC (k : κ) (v : Int) (l : List (κ × Int)) : (cput k v l).length = l.length := by
 have := congrArg List.length (ZiB k v l)
 simpa using this
theorem ZmD (k : κ) (v : Int) : ∀ l : List (κ × Int), k ∈ l.map (·.1) -> cget k (cput k v l) = v
 | [], h => by cases h
 | x :: l, h => by
  unfold cput
  by_cases e : k = x.1
  ·rw [if_pos e]; unfold cget; rw [if_pos rfl]
  ·rw [if_neg e]; unfold cget; rw [if_neg e, ZmD k v l ((List.mem_cons.1 h).resolve_left e)]
theorem ZmE (k : κ) : ∀ l : List (κ × Int), cget k (cins k l) = cget k l
 | [] => by simp [cins, cget]
 | x :: l => by
  unfold cins
  by_cases e : k = x.1
  ·rw [if_pos e]
  ·rw [if_neg e]; unfold cget; rw [if_neg e, if_neg e, ZmE k l]
theorem Zpo (k : κ) (v : Int) : ∀ (l : List (κ × Int)) (x : κ × Int), x ∈ cput k v l -> x ∈ l \/ x = (k, v)
 | [], _, h => by cases h
 | y :: l, x, h => by
  unfold cput at h
  by_cases e : k = y.1
  ·rw [if_pos e] at h
   rcases List.mem_cons.1 h with h | h
   ·exact .inr h
   ·exact .inl (List.mem_cons_of_mem _ h)
  ·rw [if_neg e] at h
   rcases List.mem_cons.1 h with h | h
   ·exact .inl (h ▸ List.mem_cons_self)
   ·rcases Zpo k v l x h with h | h
    ·exact .inl (List.mem_cons_of_mem _ h)
    ·exact .inr h
def cinc (k : κ) (l : List (κ × Int)) : List (κ × Int) := cput k (cget k l + 1) (cins k l)
theorem ZmB (k : κ) (l : List (κ × Int)) : (cinc k l).map (·.1) = if k ∈ l.map (·.1) then l.map (·.1) else l.map (·.1) ++ [k] := by
 unfold cinc
 rw [ZiB]
 by_cases h : k ∈ l.map (·.1)
 ·rw [if_pos h, ZkU k l h]
 ·rw [if_neg h, Zhz k l h]; simp
theorem Zg0.get {l : List (κ × Int)} {t : Nat} (h : Zg0 l t) (k : κ) : 0 <= cget k l /\ cget k l <= (t : Int) := by
 by_cases hm : k ∈ l.map (·.1)
 ·have := h _ (Zn0 k l hm); dsimp only at this; omega
 ·rw [ZdY k l hm]; omega
theorem Zg0.new {l : List (κ × Int)} {t : Nat} (h : Zg0 l t) (k : κ) : cget k l + 1 = 1 ↔ k ∉ l.map (·.1) := by
 constructor
 ·intro e hm
  have := h _ (Zn0 k l hm); dsimp only at this; omega
 ·intro hm; rw [ZdY k l hm]; rfl
theorem Zg0.inc {l : List (κ × Int)} {t : Nat} (h : Zg0 l t) (k : κ) : Zg0 (cinc k l) (t + 1) := by
 have hg := h.get k
 intro x hx
 by_cases hm : k ∈ l.map (·.1)
 ·unfold cinc at hx
  rw [ZkU k l hm] at hx
  rcases Zpo k _ _ x hx with hx | rfl
  ·have := h x hx; omega
  ·dsimp only; omega
 ·unfold cinc at hx
  rw [Zhz k l hm] at hx
  have hx2 : x ∈ l \/ x = (k, cget k l + 1) := by
   clear hg h
   induction l with
   | nil => simp [cput] at hx; exact .inr (by simpa [cget] using hx)
   | cons y l ih =>
    have hne : k ≠ y.1 := fun e => hm (by rw [e]; simp)
    have hml : k ∉ l.map (·.1) := fun e => hm (List.mem_cons_of_mem _ e)
    rw [ZdY k _ hm] at hx ⊢
    rw [ZdY k l hml] at ih
    rw [List.cons_append] at hx
    unfold cput at hx
    rw [if_neg hne] at hx
    rcases List.mem_cons.1 hx with hx | hx
    ·exact .inl (hx ▸ List.mem_cons_self)
    ·rcases ih hx hml with h | h
     ·exact .inl (List.mem_cons_of_mem _ h)
     ·exact .inr h
  rcases hx2 with hx | rfl
  ·have := h x hx; omega
  ·dsimp only; omega
theorem Ztc (kv : κ -> Value) (k : κ) : ∀ (i : Nat) (l : List (κ × Int)), k ∈ l.map (·.1) -> (cent kv i l)[cidx k l]? = some ⟨kv k, .int .i64 (cget k l), i + cidx k l⟩
 | _, [], h => by cases h
 | i, x :: l, h => by
  unfold cent cidx cget
  by_cases e : k = x.1
  ·rw [if_pos e, if_pos e, e]; rfl
  ·rw [if_neg e, if_neg e, List.getElem?_cons_succ, Ztc kv k (i + 1) l ((List.mem_cons.1 h).resolve_left e)]
   congr 2
   omega
theorem Zs9 (k : κ) : ∀ l : List (κ × Int), k ∈ l.map (·.1) -> cidx k l < l.length
 | [], h => by cases h
 | x :: l, h => by
  unfold cidx
  by_cases e : k = x.1
  ·rw [if_pos e]; simp
  ·rw [if_neg e, List.length_cons]
   have := Zs9 k l ((List.mem_cons.1 h).resolve_left e)
   omega
theorem Zpq (kv : κ -> Value) (k : κ) (v : Int) : ∀ (i : Nat) (l : List (κ × Int)), k ∈ l.map (·.1) -> (cent kv i l).modify (cidx k l) (fun e => { e with val := .int .i64 v }) = cent kv i (cput k v l)
 | _, [], h => by cases h
 | i, x :: l, h => by
  unfold cidx cput
  by_cases e : k = x.1
  ·rw [if_pos e, if_pos e, e]; rfl
  ·rw [if_neg e, if_neg e]
   unfold cent
   rw [List.modify_succ_cons, Zpq kv k v (i + 1) l ((List.mem_cons.1 h).resolve_left e)]
end
class KeyT (P : Program) (kt : TypeId) (κ : outParam Type) [DecidableEq κ] (kv : outParam (κ -> Value)) : Prop where
 ask : ∀ (k : κ) (l : List (κ × Int)) (w : World), (Instr.findKey kt (kv k) (cent kv 0 l)).run P w = .ok (Zn1 k l 0) w
 chk : ∀ (b : Bool) (k : κ) (w : World), (Instr.checkKey b 10000 kt (kv k)).run P w = .ok () w
 stay : ∀ (k : κ) (w : World), (Instr.keyThatStays (kv k) (kv k)).run P w = .ok (kv k) w
section
variable {κ : Type} {kv : κ -> Value}
variable {P : Program} {n : Nat} {wr : World} {fr : Fr} {O : List It} {ty : TypeId} {pos : String} {af : Array Edge} {dst : Option Tmp} {g : Option (Nat × Bool)} {Kp : Value -> List It -> Prop}
theorem setC {a : Act} {w : World} {b : Nat} {l l' : List (κ × Int)} {O' : List It} (hs : St n wr fr O a w) (hu : Upd O (cmIt kv b l) (cmIt kv b l') O') :
  Bel wr.heap.size wr { w with heap := w.heap.setIfInBounds b (.map (cent kv 0 l').toArray l'.length) } /\ Zaw wr.heap.size O' { w with heap := w.heap.setIfInBounds b (.map (cent kv 0 l').toArray l'.length) } := by
 have hin := hs.own.inb _ hu.mem b rfl
 refine ⟨hs.old.trans ⟨⟨rfl, rfl, rfl, by simp, fun i hi => ZdK (by omega)⟩⟩, hs.own.upd hu hs.old.size (by simp) (fun i _ hi => ZdK hi) (cmIt.mk ?_) fun i hi => .inl hi⟩
 simp [Array.getElem?_setIfInBounds, hin.2]
theorem Ztx {t : TypeId} (kv : κ -> Value) (k : ∀ b, Kp (.map (some b)) (cmIt kv b [] :: O)) : Stp P n wr fr O ⟨dst, .makeMap t none, ty, pos, af, g⟩ Kp :=
 Zb0 fun a w hs => by
  have hB : Bel w.heap.size w (w.alloc (.map #[] 0)) := (Bel.refl _ _).alloc (Nat.le_refl _) _
  refine ⟨.map (some w.heap.size), w.alloc (.map #[] 0), _, ?_, hs.old.trans (hB.mono hs.old.size), hs.own.grow (O' := [cmIt kv w.heap.size []]) hB hs.old.size ⟨fun i hi => ?_, fun i hi b hb => ?_, List.pairwise_singleton _ _⟩, k _⟩
  ·simp only [execOp, Option.map_none, Sem.run_bind, run_makeMap (P := P) t w, Result.andThen_ok, Sem.run_pure]
  ·rw [List.mem_singleton.1 hi]
   exact cmIt.mk (heap_alloc_new w _)
  ·rw [List.mem_singleton.1 hi] at hb
   simp only [It.S, cmIt] at hb
   subst hb
   exact ⟨Nat.le_refl _, by simp⟩
theorem Zyc {t kt et b : Nat} {x : Operand} {l : List (κ × Int)} {R : List It} [hM : MapT P t kt et] (hx : ev fr x = some (.map (some b))) (hp : Pick (cmIt kv b l) O R) :
  Pu P n wr fr O (.call ⟨.builtin .len, #[x], #[t]⟩) ty (.int .i64 l.length) := fun a w hs _ _ _ _ => by
 have h1 := cmIt.heap (hs.own.sat _ (hp.perm.mem_iff.2 List.mem_cons_self))
 have hu := run_underlying (w := w) (MapT.parts hM.h)
 have hx' := hs.sim.ev hx
 simp [execOp, resolve, invoke, builtin, Builtin.len_, hx', hu, Zbc (P := P) h1, goInt, Zpr]
end
section
variable {κ : Type} [DecidableEq κ] {kv : κ -> Value}
variable {P : Program} {n : Nat} {wr : World} {fr : Fr} {O : List It} {ty : TypeId} {pos : String} {af : Array Edge} {dst : Option Tmp} {g : Option (Nat × Bool)} {Kp : Value -> List It -> Prop}
theorem ZrP {t kt et b : Nat} {l : List (κ × Int)} {w : World} [hM : MapT P t kt et] [hK : KeyT P kt κ kv] [ZeroV P et (.int .i64 0)] (h : (cmIt kv b l).sat w) (k : κ) : (Instr.lookup t (.map (some b)) (kv k) false).run P w = .ok (.int .i64 (cget k l)) w := by
 have h1 := cmIt.heap h
 have hu := run_underlying (w := w) (MapT.parts hM.h)
 have ha := hK.ask k l w
 have hz := ZfP (P := P) (t := et) (v := .int .i64 0) (w := w)
 have hc := fun b => hK.chk b k w
 obtain ⟨es, he⟩ : ∃ es : Array MapEntry, es = (cent kv 0 l).toArray := ⟨_, rfl⟩
 rw [<- he] at h1
 have hl : es.toList = cent kv 0 l := by rw [he]
 simp only [Instr.lookup, Sem.run_bind, hu, Result.andThen_ok, Zbc (P := P) h1, Sem.run_pure, hc, hl, ha]
 rw [ZkV]
 by_cases hm : k ∈ l.map (·.1)
 ·rw [if_pos hm]
  simp
 ·rw [if_neg hm, ZdY k l hm]
  simp [hz]
theorem ZvS {t kt et b : Nat} {x ix : Operand} {l : List (κ × Int)} {k : κ} {v : Int} {R : List It} [hM : MapT P t kt et] [hK : KeyT P kt κ kv] [ZeroV P et (.int .i64 0)] (hx : ev fr x = some (.map (some b))) (hi : ev fr ix = some (kv k)) (hp : Pick (cmIt kv b l) O R) (hv : cget k l = v) :
  Pu P n wr fr O (.lookup t x ix false) ty (.int .i64 v) := fun a w hs _ _ _ _ => by
 have := ZrP (P := P) (t := t) (kt := kt) (et := et) (hs.own.sat _ (hp.perm.mem_iff.2 List.mem_cons_self)) k
 simp only [execOp, hs.sim.ev hx, hs.sim.ev hi, Sem.run_bind, this, Result.andThen_ok, Sem.run_pure, hv]
theorem Zqc {t kt et b : Nat} {l : List (κ × Int)} {w : World} [hM : MapT P t kt et] [hK : KeyT P kt κ kv] [ZeroV P et (.int .i64 0)] (h : (cmIt kv b l).sat w) (k : κ) : (Instr.mapEntry t (.map (some b)) (kv k)).run P w =
  .ok (.tuple #[.int .i64 (cget k l), .int .i64 (cidx k l)]) { w with heap := w.heap.setIfInBounds b (.map (cent kv 0 (cins k l)).toArray (cins k l).length) } := by
 have h1 := cmIt.heap h
 have hu := run_underlying (w := w) (MapT.parts hM.h)
 have ha := hK.ask k l w
 have hz := ZfP (P := P) (t := et) (v := .int .i64 0) (w := w)
 have hc := fun b => hK.chk b k w
 have hst := hK.stay k w
 obtain ⟨es, he⟩ : ∃ es : Array MapEntry, es = (cent kv 0 l).toArray := ⟨_, rfl⟩
 rw [<- he] at h1
 have hl : es.toList = cent kv 0 l := by rw [he]
 simp only [Instr.mapEntry, Sem.run_bind, hu, Result.andThen_ok, Zbc (P := P) h1, Sem.run_pure, hc, hl, ha]
 rw [ZkV]
 by_cases hm : k ∈ l.map (·.1)
 ·rw [if_pos hm, ZkU k l hm]
  have hat := Ztc kv k 0 l hm
  rw [Nat.zero_add] at hat
  have hej : es[0 + cidx k l]? = some ⟨kv k, .int .i64 (cget k l), cidx k l⟩ := by
   rw [he, Nat.zero_add]
   simpa using hat
  have hmod : (es.modify (0 + cidx k l) fun e => ({ key := kv k, val := e.val, born := e.born } : MapEntry)) = es := by
   apply Array.ext_getElem?
   intro i
   rw [Array.getElem?_modify]
   split
   ·rename_i hij
    subst hij
    rw [hej]
    rfl
   ·rfl
  have hke : (Option.map (fun x : MapEntry => x.key) es[0 + cidx k l]?).getD (kv k) = kv k := by rw [hej]; rfl
  simp only [hke, Sem.run_bind, hst, Result.andThen_ok, hmod, <- he]
  rw [Nat.zero_add] at hej ⊢
  simp [setObj, Sem.run, h1, goInt, hej]
 ·rw [if_neg hm, Zhz k l hm, Zpp k l hm, ZdY k l hm]
  have hp : (es.push { key := kv k, val := .int .i64 0, born := l.length }) = (cent kv 0 (l ++ [(k, 0)])).toArray := by
   rw [he, Zpt, Nat.zero_add]
   simp [cent]
  rw [<- hp]
  simp [hz, setObj, Sem.run, h1, goInt]
theorem Zqb {t b : Nat} {l : List (κ × Int)} {w : World} {s : Nat} (h : (cmIt kv b l).sat w) (k : κ) (v : Int) (hk : k ∈ l.map (·.1)) (hs : cidx k l = s) : (Instr.entryStore t (.map (some b)) (.int .i64 s) (.int .i64 v)).run P w =
  .ok () { w with heap := w.heap.setIfInBounds b (.map (cent kv 0 (cput k v l)).toArray (cput k v l).length) } := by
 have h1 := cmIt.heap h
 have h2 := Zps kv 0 l s (hs ▸ Zs9 k l hk)
 rw [Nat.zero_add] at h2
 have h3 := Zpq kv k v 0 l hk
 rw [hs] at h3
 have hfi : ((cent kv 0 l).toArray.findIdx? fun e => (e.born : Int) == (s : Int)) = some s := by rw [List.findIdx?_toArray]; exact h2
 simp only [Instr.entryStore, Sem.run_bind, Result.andThen_ok, Zbc (P := P) h1, Sem.run_pure, asInt, asIntOf, Sem.run_map, hfi]
 rw [<- h3, ZvC]
 simp [setObj, Sem.run, h1]
theorem Ze4 {t kt et b : Nat} {x ix : Operand} {l : List (κ × Int)} {k : κ} {O' : List It} [hM : MapT P t kt et] [hK : KeyT P kt κ kv] [ZeroV P et (.int .i64 0)] (hx : ev fr x = some (.map (some b))) (hi : ev fr ix = some (kv k)) (hu : Upd O (cmIt kv b l) (cmIt kv b (cins k l)) O')
  (kk : Kp (.tuple #[.int .i64 (cget k l), .int .i64 (cidx k l)]) O') : Stp P n wr fr O ⟨dst, .mapEntry t x ix, ty, pos, af, g⟩ Kp := by
 refine Zb0 ?_
 intro a w hs
 have hst := setC hs hu
 have hr := Zqc (P := P) (t := t) (kt := kt) (et := et) (hs.own.sat _ hu.mem) k
 refine ⟨_, _, O', ?_, hst.1, hst.2, kk⟩
 simp only [execOp, hs.sim.ev hx, hs.sim.ev hi, Sem.run_bind, hr, Result.andThen_ok, Sem.run_pure]
theorem Ze3 {t b : Nat} {x sx y : Operand} {l : List (κ × Int)} {k : κ} {v : Int} {O' : List It} (hx : ev fr x = some (.map (some b))) (hsx : ev fr sx = some (.int .i64 (cidx k l))) (hy : ev fr y = some (.int .i64 v)) (hu : Upd O (cmIt kv b (cins k l)) (cmIt kv b (cput k v (cins k l))) O')
  (kk : Kp undef O') : Stp P n wr fr O ⟨dst, .entryStore t x sx y, ty, pos, af, g⟩ Kp :=
 ZhA fun a w hst => by
  have h2 := setC hst hu
  refine ⟨_, O', ?_, h2.1, h2.2, kk⟩
  have := Zqb (P := P) (t := t) (hst.own.sat _ hu.mem) k v (ZkT k l) (ZmC k l)
  simp only [execOp, hst.sim.ev hx, hst.sim.ev hsx, hst.sim.ev hy, Sem.run_bind, this, Result.andThen_ok, Sem.run_pure]
end
end Go.Wk
