/- Parts of the proof. -/
import Derived.Test.YtpcpmndldgejiaaGreatDoorV11
import Derived.Test.YtpcpmndldgejiaaGreatDoorV06
import Derived.Test.YtpcpmndldgejiaaGreatDoorV01
import Derived.Sort.LotA
import Derived.Test.YtpcpmndldgejiaaGreatDoorV05
import Derived.Test.YtpcpmndldgejiaaGreatDoorV07
set_option maxHeartbeats 4000000
set_option linter.unusedVariables false
set_option linter.unusedSimpArgs false
namespace Go.Proofs.YtpcpmndldgejiaaGreatDoor
open Go Go.RowKit Go.Wk
def NewSrc2 (rs : List Zaa) (zs : List ZaN) (ls : List ZaC) (ss : List ByteArray) (v : Value) (O : List It) : Prop :=
 ∃ Ar cr Az cz Al cl As cs Zs S, v = .agg #[.slice Ar rs.length cr, .slice Az Zs.length cz, .slice Al ls.length cl, .slice As ss.length cs] ∧ Zs.map ZE.z = zs ∧ O = [rowR Ar cr rs, rowZ Az cz Zs, rowL Al cl ls, rowS As cs ss, .fact S (ZaH Zs)]
theorem newSrc2_of {s : Zaf} {v : Value} {O : List It} (h : NewSrcR s v O) : ∃ O', NewSrc2 s.rules s.zones s.links s.shifts v O' ∧ ∀ base w', Holds base O w' → Holds base O' w' := by
 obtain ⟨O', ⟨Ar, cr, Az, cz, Al, cl, As, cs, Zs, S, rfl, hz, rfl⟩, h2⟩ := newSrc_of h
 exact ⟨_, ⟨Ar, cr, Az, cz, Al, cl, As, cs, Zs, S, by rw [srcV, ← hz, List.length_map], hz, rfl⟩, h2⟩
theorem made23N_spec (As Az Al : Option Addr) (cs cz cl : Nat) (d : DD23) (w : World) (hS : RdLL w As cs Zdc 1 d.sets) (hZ : RdLL w Az cz E23.enc 8 d.zones) (hL : RdSl w Al cl Zdc 1 d.links) (hrs : ∀ l ∈ d.sets, ∀ x ∈ l, inR .u8 x) (hrz : ∀ l ∈ d.zones, ∀ x ∈ l, x.ok) (hrl : ∀ x ∈ d.links, inR .u8 x) :
  Does Tryz.prog 13 [d23V As Az Al cs cz cl d] w (NewSrc2 (Zan d).rules (Zan d).zones (Zan d).links []) :=
 (made23_spec As Az Al cs cz cl d w hS hZ hL hrs hrz hrl).monoO fun v O h => newSrc2_of h
theorem src2_rd {w : World} {Ar Az Al As : Option Addr} {cr cz cl cs nr nz nl ns : Nat} {Zs : List ZE} {rs : List Zaa} {ls : List ZaC} {ss : List ByteArray} {xr xl xs : List Value} (h1 : (It.row (.slice Ar nr cr) 118 11 nr xr).sat w) (h2 : (It.row (.slice Az nz cz) 54 2 nz (Zs.flatMap ZE.enc)).sat w) (h3 : (It.row (.slice Al nl cl) 56 2 nl xl).sat w) (h4 : (It.row (.slice As ns cs) 9 1 ns xs).sat w)
  (h5 : ZaH Zs w) (e1 : nr = rs.length) (e2 : nz = Zs.length) (e3 : nl = ls.length) (e4 : ns = ss.length) (f1 : xr = rs.flatMap Zaa.enc) (f3 : xl = ls.flatMap ZaC.enc) (f4 : xs = ss.flatMap Zau) : Zao w Ar Az Al As cr cz cl cs ⟨rs, Zs.map ZE.z, ls, ss⟩ := by
 subst e1 e2 e3 e4 f1 f3 f4
 have h := Za3 ZE.len h2
 exact ⟨Za3 Zaa.len h1, by rw [List.length_map]; exact h.le, h.cap, zones_rd h h5, Za3 ZaC.len h3, Za3 Zau.len h4⟩
attribute [local irreducible] W RL Does Zat Zak retQ Calls Pu Stp RD Qy Ay Zam
end Go.Proofs.YtpcpmndldgejiaaGreatDoor
namespace Go.Proofs.YtpcpmndldgejiaaGreatDoor
open Go Go.RowKit Go.Wk
attribute [local irreducible] W RL Does Zat Zak retQ Calls Pu Stp RD Qy Ay
theorem PuOfN0 {G : Prop} (h : G := by (first | (apply Pu_indexAddr; rfl; rfl; omega; omega; (first | exact hna)) | (apply Pu_loadON; rfl; (first | exact hca); rfl))) : G := h
theorem ofN_spec (Ar Az Al As : Option Addr) (cr cz cl cs : Nat) (a : Zaf) (set : ByteArray) (w : World) (hA : Zao w Ar Az Al As cr cz cl cs a) (hn : a.rules.length ≤ 1000000) :
  Does Tryz.prog 61 [srcV Ar Az Al As cr cz cl cs a, .string set] w (NewSl 118 11 Zaa.enc (ofB a.rules set)) := by
 generalize hres : ofB a.rules set = res
 refine Zab Tryz.func61 rfl rfl rfl rfl ?_
 repeat (first | (refine js ?_; (refine bx ?_; intro bk)) | refine walk ?_)
 refine Zcd 118 11 ?_
 refine Zal [(1, _), (2, _), (4, _), (9, _), (10, _)] [_] (fun g : AG Zaa => [(5, .slice g.A g.m g.c), (11, .int .i64 g.k)]) (fun g => [.row (.slice g.A g.m g.c) 118 11 g.m g.xs]) (fun g => g.k ≤ a.rules.length ∧ g.m = g.acc.length ∧ g.xs = g.acc.flatMap Zaa.enc ∧ g.m ≤ g.k ∧ g.acc ++ ofB (a.rules.drop g.k) set = res) (fun g => a.rules.length - g.k) ⟨0, none, 0, 0, [], []⟩ ⟨rfl, rfl, rfl, rfl, rfl, rfl, rfl, trivial⟩ (.cons (by repeat' constructor) (.refl _)) ⟨by simp, rfl, rfl, Nat.le_refl _, by simpa using hres⟩ ?_
 rintro ⟨k, A, c, m, xs, acc⟩ ⟨hk, hm, hx, hmk, hi⟩
 dsimp only at hk hm hx hmk hi ⊢
 repeat (first | (refine js ?_; (refine bx ?_; intro bk)) | refine walk ?_)
 refine Zag rfl (fun hc => ?_) (fun hc => ?_)
 ·simp only [decide_eq_true_eq, Int.ofNat_lt] at hc
  obtain ⟨hna, hca⟩ := hA.r.rd k _ (List.getElem?_eq_getElem hc)
  rw [Zai hc, ofB, List.filter_cons] at hi
  generalize a.rules[k] = r at *
  repeat (first | (apply RL_pu; rfl; exact PuOfN0) | (refine js ?_; (refine bx ?_; intro bk)) | refine walk1 ?_)
  refine Zag rfl (fun h3 => ?_) (fun h3 => ?_)
  ·rw [if_pos h3] at hi
   repeat (first | (apply RL_pu; rfl; exact PuOfN0) | (refine js ?_; (first | (apply Zaq; rfl; rfl; (intro A' c'; (focus repeat' constructor)); (intro w' _ hO; exact Za1 (hO.of (by repeat' constructor))); rfl; rfl; (simp only [maxLen]; omega); omega; intro A' c' hc1 hc2 hc3) | (refine bx ?_; intro bk))) | refine walk1 ?_)
   exact ⟨⟨k + 1, A', c', m + 1, xs ++ r.enc, acc ++ [r]⟩, OA, ⟨OA, by simp [hm], by rw [hx]; exact Zb9 acc r, OA, by rw [← hi]; simp [ofB]⟩, SFA, SOA⟩
  rw [h3] at hi
  repeat (first | (refine js ?_; (refine bx ?_; intro bk)) | refine walk ?_)
  exact ⟨⟨k + 1, A, c, m, xs, acc⟩, OA, ⟨OA, hm, hx, OA, hi⟩, SFA, SOA⟩
 simp only [decide_eq_false_iff_not, Int.ofNat_lt] at hc
 rw [List.drop_eq_nil_of_le (by omega)] at hi
 simp only [ofB, List.filter_nil, List.append_nil] at hi
 subst hi
 repeat (first | (refine js ?_; (refine bx ?_; intro bk)) | refine walk ?_)
 exact ret_1 _ [.row (.slice A acc.length c) 118 11 acc.length (acc.flatMap Zaa.enc)] (.tmp rfl) (by subst hm hx; exact SOA) ⟨A, c, by rw [hm], rfl⟩
end Go.Proofs.YtpcpmndldgejiaaGreatDoor
namespace Go.Proofs.YtpcpmndldgejiaaGreatDoor
open Go Go.RowKit Go.Wk
structure SV where
 Ar : Option Addr
 Az : Option Addr
 Al : Option Addr
 As : Option Addr
 cr : Nat
 cz : Nat
 cl : Nat
 cs : Nat
 nr : Nat
 nz : Nat
 nl : Nat
 ns : Nat
 s : Zaf
def SV.cells (x : SV) : List Value := [.slice x.Ar x.nr x.cr, .slice x.Az x.nz x.cz, .slice x.Al x.nl x.cl, .slice x.As x.ns x.cs]
theorem SV.len (x : SV) : x.cells.length = 4 := rfl
structure SV.Rd (x : SV) (w : World) : Prop where
 r : Zao w x.Ar x.Az x.Al x.As x.cr x.cz x.cl x.cs x.s
 e1 : x.nr = x.s.rules.length
 e2 : x.nz = x.s.zones.length
 e3 : x.nl = x.s.links.length
 e4 : x.ns = x.s.shifts.length
theorem mergeV_spec (x y : SV) (a b : Zaf) (ea : x.s = a) (eb : y.s = b) (w : World) (hx : x.Rd w) (hy : y.Rd w) (hn : Fits a) (hm : Fits b) (h : chkB a b = none) : Does Tryz.prog 20 [.agg x.cells.toArray, .agg y.cells.toArray] w (fun v O => ∃ v1, v = .tuple #[v1, .agg (⟨0, 0, 0⟩ : Zax).enc.toArray, .int .i64 0] ∧ NewSrc2 (ZaD a b).rules (ZaD a b).zones (ZaD a b).links (ZaD a b).shifts v1 O) := by
 subst ea eb
 have := merge_spec x.Ar x.Az x.Al x.As x.cr x.cz x.cl x.cs x.s y.Ar y.Az y.Al y.As y.cr y.cz y.cl y.cs y.s w hx.r hy.r hn hm
 rw [MergeOut_ok (by rw [h]; rfl)] at this
 rw [SV.cells, SV.cells, hx.e1, hx.e2, hx.e3, hx.e4, hy.e1, hy.e2, hy.e3, hy.e4]
 refine this.mono ?_
 rintro v O ⟨v1, rfl, Ar, cr, Az, cz, Al, cl, As, cs, Zs, S, rfl, hz, rfl⟩
 exact ⟨_, rfl, Ar, cr, Az, cz, Al, cl, As, cs, Zs, S, by rw [srcV, ← hz, List.length_map], hz, rfl⟩
theorem renV_spec (x : SV) (c : Bool) (w : World) (h : x.Rd w) (hn : Fits x.s) (hs : Short x.s) : Does Tryz.prog 19 [.agg x.cells.toArray, .string xX, .bool c] w (NewSrc2 (renD x.s xX c).rules (renD x.s xX c).zones (renD x.s xX c).links (renD x.s xX c).shifts) := by
 rw [SV.cells, h.e1, h.e2, h.e3, h.e4]
 exact (renamed_spec x.Ar x.Az x.Al x.As x.cr x.cz x.cl x.cs x.s xX c w h.r hn hs (by decide)).monoO fun v O h => newSrc2_of h
theorem rdV {w : World} {Ar Az Al As : Option Addr} {cr cz cl cs : Nat} {Zs : List ZE} {a : Zaf} {ss : List ByteArray} (hZ : Zs.map ZE.z = a.zones) (hss : a.shifts = ss) (h1 : (rowR Ar cr a.rules).sat w) (h2 : (rowZ Az cz Zs).sat w) (h3 : (rowL Al cl a.links).sat w) (h4 : (rowS As cs ss).sat w) (h5 : ZaH Zs w) :
  SV.Rd ⟨Ar, Az, Al, As, cr, cz, cl, cs, a.rules.length, Zs.length, a.links.length, ss.length, a⟩ w := by
 have := src2_rd (rs := a.rules) (Zs := Zs) (ls := a.links) (ss := a.shifts) h1 h2 h3 h4 h5 rfl rfl rfl (by rw [hss]) rfl rfl (by rw [hss])
 rw [hZ] at this
 exact ⟨this, rfl, by rw [← hZ, List.length_map], rfl, by rw [hss]⟩
attribute [local irreducible] W RL Does Zat Zak retQ Calls Pu Stp RD Qy Ay Zam
end Go.Proofs.YtpcpmndldgejiaaGreatDoor
namespace Go.Wk
open Go Go.RowKit
def leapB (y : Int) : Bool := decide (y % 4 = 0) && (!decide (y % 100 = 0) || decide (y % 400 = 0))
def lenM (y m : Int) : Int := if m < 1 ∨ 12 < m then 0 else if m = 2 then (if leapB y then 29 else 28) else if m = 4 ∨ m = 6 ∨ m = 9 ∨ m = 11 then 30 else 31
def inY (y : Int) : Bool := decide (-2000000000 ≤ y) && decide (y ≤ 2000000000)
def Zbf : List Int := [0, 31, 61, 92, 122, 153, 184, 214, 245, 275, 306, 337]
def dayNoM (y m d : Int) : Int := y / 400 * 146097 + y % 400 * 365 + y % 400 / 4 - y % 400 / 100 + Zbf.getD (m - 3).toNat 0 + d - 1 - 719468
def ZbM (y m d : Int) : Int := if m < 3 then dayNoM (y - 1) (m + 12) d else dayNoM y m d
def Zb0 (y m d : Int) : Bool := inY y && decide (1 ≤ d) && decide (d ≤ lenM y m)
def wkday (n : Int) : Int := (n + 4) % 7
theorem lenM_bd (y m : Int) : 0 ≤ lenM y m ∧ lenM y m ≤ 31 := by
 unfold lenM
 split
 ·omega
 ·split
  ·split <;> omega
  ·split <;> omega
theorem wkday_bd (n : Int) : 0 ≤ wkday n ∧ wkday n ≤ 6 := by unfold wkday; omega
theorem ZeW (k : Nat) : 0 ≤ Zbf.getD k 0 ∧ Zbf.getD k 0 ≤ 337 := by
 by_cases h : k < 12
 ·have : k = 0 ∨ k = 1 ∨ k = 2 ∨ k = 3 ∨ k = 4 ∨ k = 5 ∨ k = 6 ∨ k = 7 ∨ k = 8 ∨ k = 9 ∨ k = 10 ∨ k = 11 := by omega
  rcases this with rfl | rfl | rfl | rfl | rfl | rfl | rfl | rfl | rfl | rfl | rfl | rfl <;> decide
 ·rw [List.getD_eq_getElem?_getD, List.getElem?_eq_none (by simp [Zbf]; omega)]
  decide
def Zee (r : Int) : Int := (r - r / 1460 + r / 36524 - r / 146096) / 365
def monN (r : Int) : Nat → Nat
 | 0 => 0
 | m + 1 => if Zbf.getD (m + 1) 0 ≤ r then m + 1 else monN r m
def dateY (n : Int) : Int :=
 let c := (n + 719468) / 146097
 let r := (n + 719468) % 146097
 let y := Zee r
 let q := r - (y * 365 + y / 4 - y / 100)
 if 10 ≤ monN q 11 then c * 400 + y + 1 else c * 400 + y
def Zej (t : Int) : Int := min (max (dateY (t / 86400)) (-2000000000)) 2000000000
def weekK (k : Int) : Bool := !decide (k = 1)
def dayK (k : Int) : Bool := !decide (k = 2)
def Zc9 (d : DDay) : Bool := decide (1 ≤ d.kind) && decide (d.kind ≤ 4) && !((!decide (d.week = 0) && !weekK d.kind) || decide (d.week < 0) || decide (6 < d.week) || (dayK d.kind == decide (d.day = 0)) || decide (d.day < 0) || decide (31 < d.day))
def behindW (x w : Int) : Int := x + (w - wkday x + 7) % 7
def ZeE (x w : Int) : Int := x - (wkday x - w + 7) % 7
def findD (first last : Int) (d : DDay) : Int := if d.kind = 1 then first + d.day - 1 else if d.kind = 2 then ZeE last d.week else if d.kind = 3 then behindW (first + d.day - 1) d.week else ZeE (first + d.day - 1) d.week
def onD (y m : Int) (d : DDay) : Int × Int :=
 if Zb0 y m 1 = false then (0, 3) else if Zc9 d = false then (0, 2) else if lenM y m < d.day then (0, 4) else (findD (ZbM y m 1) (ZbM y m 1 + lenM y m - 1) d, 0)
def alwaysD (from_ to m : Int) (d : DDay) : Bool :=
 if m < 1 ∨ 12 < m ∨ Zc9 d = false then false
 else if (to < 1048576 ∧ to < from_) ∨ d.day ≤ lenM 1 m then true
 else if 1048576 ≤ to ∨ from_ ≠ to ∨ m ≠ 2 then false
 else decide (d.day ≤ lenM (from_.tmod 400) m)
def Za7 (c : ZeN) : Bool := decide (-604799 ≤ c.sec) && decide (c.sec ≤ 604799) && decide (0 ≤ c.base) && decide (c.base ≤ 2)
def Zde (c : Nat) : Nat := if (65 ≤ c ∧ c ≤ 90) ∨ (97 ≤ c ∧ c ≤ 122) then 1 else if 48 ≤ c ∧ c ≤ 57 then 2 else if c = 95 then 4 else if c = 45 then 8 else if c = 46 ∨ c = 43 then 16 else 0
def ZcD (some_ : Nat) (l : List UInt8) : Bool := l.all fun c => !decide (Zde c.toNat &&& some_ = 0)
def Zc2 (least most some_ : Nat) (l : List UInt8) : Bool := decide (least ≤ l.length) && decide (l.length ≤ most) && ZcD some_ l
def cutSl : List UInt8 → List UInt8 → List (List UInt8)
 | [], acc => [acc]
 | c :: l, acc => if c = 47 then acc :: cutSl l [] else cutSl l (acc ++ [c])
def partB (l : List UInt8) : Bool := Zc2 1 14 31 l && !(match l with | c :: _ => decide (c = 46) || decide (c = 45) | [] => false)
def ZcU (s : ByteArray) : Bool := decide (s.size ≤ 60) && (cutSl s.data.toList []).all partB
def setB (s : ByteArray) : Bool := Zc2 1 30 15 s.data.toList && Zc2 1 1 1 (s.data.toList.take 1)
def letterB (s : ByteArray) : Bool := Zc2 1 4 1 s.data.toList
def abbrB (s : ByteArray) : Bool := Zc2 3 6 1 s.data.toList
def Zaj (l : List Zaa) : Int := l.foldl (fun m r => min m r.save) 0
def ZcC : List Zaa → Int → Int × Bool
 | [], x => (x, !decide (x = 0))
 | r :: l, x => if r.save = 0 then ZcC l x else if x ≠ 0 ∧ r.save ≠ x then (0, false) else ZcC l r.save
def Zc1 (l : List Zaa) : Int × Bool := ZcC l 0
def Zch (y : Int) : Bool := decide (1850 ≤ y) && decide (y ≤ 2149)
def timedB (c : ZeN) (least : Int) : Bool := Za7 c && (let n := if c.base = 1 then c.sec + least else c.sec; decide (-86400 ≤ n) && decide (n ≤ 172800))
def Zcn (r : Zaa) (least : Int) : Int :=
 if (Zch r.from_ && (Zch r.to || decide (r.to = 1048576))) = false then 3
 else if r.to < r.from_ then 12
 else if alwaysD r.from_ r.to r.month r.day = false then 3
 else if timedB r.at_ least = false then 3
 else if (decide (-10800 ≤ r.save) && decide (r.save ≤ 10800)) = false then 14
 else if (decide (r.letter = ByteArray.empty) || letterB r.letter) = false then 15
 else 0
def Zec (r : Zaa) : Bool := if r.day.kind = 2 then true else if r.day.kind = 3 then decide (r.day.day.tmod 7 = 1) && decide (r.day.day < 29) else if r.day.kind = 1 then !decide (r.month = 2) || !decide (r.day.day = 29) else false
def lastB (l : List Zaa) : Bool :=
 match l.filter fun r => decide (r.to = 1048576) with
 | [] => true
 | [a, b] => (decide (a.save = 0) != decide (b.save = 0)) && !decide (a.month = b.month) && Zec a && Zec b
 | _ => false
def Zbh (least : Int) : List Zaa → Nat → Option (Nat × Int)
 | [], _ => none
 | r :: l, k => if Zcn r least = 0 then Zbh least l (k + 1) else some (k, Zcn r least)
def rsChk (l : List Zaa) : Nat × Int :=
 match Zbh (Zaj l) l 0 with
 | some x => x
 | none =>
  if (l.any fun r => decide (r.save = 0)) = false ∨ (Zaj l < 0 ∧ (l.any fun r => !decide (r.save = 0) && !decide (r.save = Zaj l)) = true) then (0, 14)
  else if lastB l = false then (0, 16)
  else (0, 0)
def dig2 (n : Int) : List UInt8 := [UInt8.ofNat (48 + (n / 10).toNat), UInt8.ofNat (48 + (n % 10).toNat)]
def Zb3 (off : Int) : List UInt8 :=
 if off ≤ -86400 ∨ 86400 ≤ off then []
 else
  let x := if off < 0 then -off else off
  (if off < 0 then (45 : UInt8) else 43) :: (dig2 (x / 3600) ++ (if x % 3600 = 0 then [] else dig2 (x / 60 % 60)) ++ (if x % 60 = 0 then [] else dig2 (x % 60)))
def numU (l : List UInt8) : Option Int := if l.isEmpty then none else if l.all (fun c => decide (48 ≤ c) && decide (c ≤ 57)) then some (l.foldl (fun n c => n * 10 + ((c.toNat : Int) - 48)) 0) else none
def parseGo (l : List UInt8) : List Int → Nat → Int → Option Int
 | [], _, off => some off
 | u :: us, i, off => if l.length ≤ 1 + 2 * i then some off else match numU ((l.drop (1 + 2 * i)).take 2) with | none => none | some n => parseGo l us (i + 1) (off + n * u)
def ZbF (l : List UInt8) : Option Int :=
 match parseGo l [3600, 60, 1] 0 0 with
 | none => none
 | some o => let off := if l.head? = some 45 then -o else o
  if l.isEmpty ∨ Zb3 off ≠ l then none else some off
def Zdr (n : Int) : Bool := decide (-9223372036854775808 ≤ n) && decide (n ≤ 9223372036854775807)
def joinN (off : Int) : List Int → Option (List (List UInt8))
 | [] => some []
 | x :: l => if Zdr (off + x) = false ∨ Zb3 (off + x) = [] then none else match joinN off l with | none => none | some r => some (Zb3 (off + x) :: r)
def ZcW : List (List UInt8) → List UInt8
 | [] => []
 | [x] => x
 | x :: l => x ++ 47 :: ZcW l
def expandN (e : DEra) (l : List Zaa) : List UInt8 × Int :=
 let j := fun s => match joinN e.off s with | none => ([], (3 : Int)) | some r => (ZcW r, 0)
 if e.kind = 0 then j [0]
 else if e.kind = 1 then j [e.save]
 else if e.kind = 2 then (if (Zc1 l).2 then j [0, (Zc1 l).1] else if (l.any fun r => !decide (r.save = 0)) then ([], 14) else j [0])
 else ([], 2)
def Zds (p : List UInt8) : List UInt8 → List UInt8 → Option (List UInt8 × List UInt8)
 | [], acc => if p = [] then some (acc, []) else none
 | c :: l, acc => if p.isPrefixOf (c :: l) then some (acc, (c :: l).drop p.length) else Zds p l (acc ++ [c])
def Zc5 (l : List UInt8) : Bool := l.all fun c => decide (Zde c.toNat = 1)
def Zcb (f : List UInt8) : Option (List UInt8 × List UInt8) :=
 match Zds [37, 115] f [] with
 | none => none
 | some (a, b) => if Zc5 (a ++ b) ∧ (a ++ b).length ≤ 5 then some (a, b) else none
def ZcN (l : List UInt8) : Bool := Zc2 3 6 1 l
def ZbK (f : List UInt8) : Int :=
 let two := Zds [47] f []
 if ZcN f then 1
 else if (match two with | some (a, b) => ZcN a && ZcN b | none => false) then 2
 else if (Zcb f).isSome then 3
 else if f = [37, 122] then 4
 else if (ZbF f).isSome || (match two with | some (a, b) => (ZbF a).isSome && (ZbF b).isSome | none => false) then 5
 else 0
def ZcZ (f : List UInt8) : Option (List UInt8 × List UInt8) :=
 match Zds [47] f [] with
 | none => none
 | some (a, b) => if ZbK f = 2 ∨ ZbK f = 5 then some (a, b) else none
def Zcg (f : List UInt8) (off save : Int) (letter : List UInt8) : List UInt8 × Int :=
 match ZcZ f with
 | some (a, b) => (if save = 0 then a else b, 0)
 | none =>
  if ZbK f = 3 then (match Zcb f with | some (a, b) => if ZcN (a ++ letter ++ b) then (a ++ letter ++ b, 0) else ([], 15) | none => ([], 15))
  else if ZbK f = 4 then (if Zdr (off + save) = true ∧ Zb3 (off + save) ≠ [] then (Zb3 (off + save), 0) else ([], 15))
  else if ZbK f = 1 ∨ ZbK f = 5 then (f, 0)
  else ([], 15)
def ZdZ (f : List UInt8) : List (List UInt8) → Int
 | [] => 0
 | x :: l => if (Zcg f 0 0 x).2 = 0 then ZdZ f l else (Zcg f 0 0 x).2
def fmtChk (e : DEra) (l : List Zaa) : Int :=
 let f := e.format.data.toList
 if ZbK f = 0 then 15
 else if ZbK f = 3 then ZdZ f (if e.kind = 2 then l.map (fun r => r.letter.data.toList) else [[]])
 else if ZbK f = 4 ∨ ZbK f = 5 then (if (expandN e l).2 ≠ 0 ∨ (ZbK f = 5 ∧ (expandN e l).1 ≠ f) then 15 else 0)
 else 0
def ZaU (u : Za6) (least : Int) : Int :=
 if least < -10800 ∨ 0 < least then 2
 else if u.is = false then 4
 else if u.year < 1850 ∨ 2149 < u.year ∨ Za7 u.at_ = false then 3
 else
  let sec := if u.at_.base = 1 then u.at_.sec + least else u.at_.sec
  if (onD u.year u.month u.day).2 ≠ 0 ∨ sec < -86400 ∨ 172800 < sec then 3 else 0
def ZaE (u : Za6) (least : Int) : Int × Int :=
 if ZaU u least ≠ 0 then (0, ZaU u least) else (86400 * (onD u.year u.month u.day).1 + u.at_.sec + (if u.at_.base = 1 then least else 0), 0)
structure Zac where
 year : Int
 rule : Int
 nominal : Int
 deriving DecidableEq
def Zac.enc (e : Zac) : List Value := [.int .i64 e.year, .int .i64 e.rule, .int .i64 e.nominal]
def dEv0 : Zac := ⟨0, 0, 0⟩
def lastY (r : Zaa) : Int := if r.to = 1048576 then 2000000000 else min r.to 2000000000
def onR (least : Int) (r : Zaa) (i y : Int) : Option Zac :=
 if y < max r.from_ (-2000000000) ∨ lastY r < y ∨ Za7 r.at_ = false then none
 else if (onD y r.month r.day).2 ≠ 0 then none
 else some ⟨y, i, 86400 * (onD y r.month r.day).1 + r.at_.sec + (if r.at_.base = 1 then max least (-10800) else 0)⟩
def ordE (a b : Zac) : Int := if a.nominal < b.nominal then -1 else if b.nominal < a.nominal then 1 else if a.rule < b.rule then -1 else if b.rule < a.rule then 1 else if a.year < b.year then -1 else if b.year < a.year then 1 else 0
end Go.Wk
namespace Go.Proofs.YtpcpmndldgejiaaGreatDoor
open Go Go.RowKit Go.Wk
def Zaw (x : ByteArray) : List ZaN → Nat → Option Nat
 | [], _ => none
 | z :: l, k => if z.name = x then some k else Zaw x l (k + 1)
def Zaz (x : ByteArray) : List ZaC → Nat → Option Nat
 | [], _ => none
 | z :: l, k => if z.name = x then some k else Zaz x l (k + 1)
def Zar (s : Zaf) : Nat → List ByteArray → ByteArray → Nat × Int
 | 0, _, _ => (0, 11)
 | fuel + 1, seen, x =>
  match Zaw x s.zones 0 with
  | some i => (i, 0)
  | none => match Zaz x s.links 0 with
   | none => (0, 9)
   | some i => if memB x seen then (0, 11) else Zar s fuel (x :: seen) ((s.links[i]?).map (·.target) |>.getD ByteArray.empty)
def ZaR (s : Zaf) : List ZaN → Nat → Option (Zax × Int)
 | [], _ => none
 | z :: l, i => if ZcU z.name = false then some (⟨2, i, 0⟩, 9) else if Zaw z.name s.zones 0 ≠ some i then some (⟨2, i, 0⟩, 10) else ZaR s l (i + 1)
def ZaS (s : Zaf) : List ZaC → Nat → Option (Zax × Int)
 | [], _ => none
 | l :: ls, i =>
  if ZcU l.name = false then some (⟨3, i, 0⟩, 9)
  else if (Zaw l.name s.zones 0).isSome ∨ Zaz l.name s.links 0 ≠ some i then some (⟨3, i, 0⟩, 10)
  else if (Zaw l.target s.zones 0).isNone ∧ (Zaz l.target s.links 0).isNone then some (⟨3, i, 0⟩, 9)
  else ZaS s ls (i + 1)
def Za4 (s : Zaf) : List ZaC → Nat → Option (Zax × Int)
 | [], _ => none
 | l :: ls, i => if (Zar s (s.links.length + 1) [] l.name).2 = 11 then some (⟨3, i, 0⟩, 11) else Za4 s ls (i + 1)
def Zb8 (s : Zaf) : Option (Zax × Int) := (ZaR s s.zones 0).or ((ZaS s s.links 0).or (Za4 s s.links 0))
def insE (e : Zac) : List Zac → List Zac
 | [] => [e]
 | x :: l => if ordE x e < 0 then e :: x :: l else x :: insE e l
def yearEvs (least y : Int) : List Zaa → Nat → List Zac → List Zac
 | [], _, acc => acc
 | r :: l, i, acc => yearEvs least y l (i + 1) (match onR least r i y with | some e => insE e acc | none => acc)
def allEvs (l : List Zaa) (least from_ : Int) : Nat → List Zac
 | 0 => []
 | k + 1 => yearEvs least (from_ + k) l 0 (allEvs l least from_ k)
def closeE : List Zac → Option Zac
 | [] => none
 | [_] => none
 | a :: b :: l => (closeE (b :: l)).or (if a.nominal - b.nominal < 259200 then some a else none)
def apartD (l : List Zaa) : Option Zac := closeE (allEvs l (Zaj l) 1850 701)
def evIn (least nominal : Int) (r : Zaa) (i y : Int) : Nat → Option Zac
 | 0 => none
 | k + 1 => match onR least r i y with
  | some e => if nominal < e.nominal then some e else evIn least nominal r i (y + 1) k
  | none => evIn least nominal r i (y + 1) k
def ZcF (least nominal yr : Int) : List Zaa → Nat → Option Zac → Option Zac
 | [], _, best => best
 | r :: l, i, best =>
  ZcF least nominal yr l (i + 1) (match evIn least nominal r i (max (max r.from_ (-2000000000)) (yr - 2)) 20 with
   | none => best
   | some e => match best with | none => some e | some b => if ordE e b < 0 then some e else some b)
def afterD (l : List Zaa) (nominal : Int) : Option Zac := ZcF (Zaj l) nominal (Zej nominal) l 0 none
def farD (l : List Zaa) (nominal : Int) : Bool :=
 match afterD l (nominal - 259200) with
 | none => true
 | some e => decide (259200 ≤ e.nominal - nominal)
def Zeb (s : Zaf) : Option (Zax × Int) :=
 if 2000 < s.rules.length then some (⟨1, 2000, 0⟩, 7)
 else if 500 < s.zones.length then some (⟨2, 500, 0⟩, 7)
 else match s.zones.findIdx? fun z => decide (60 < z.eras.length) with
  | some i => some (⟨2, i, 60⟩, 7)
  | none => if 1000 < s.links.length then some (⟨3, 1000, 0⟩, 7) else if 2000 < s.shifts.length then some (⟨4, 2000, 0⟩, 7) else none
def Zdy (set : ByteArray) : List Zaa → Nat → Nat → Zax
 | [], _, _ => ⟨0, 0, 0⟩
 | r :: l, i, k => if r.name = set then (match i with | 0 => ⟨1, k, 0⟩ | i + 1 => Zdy set l i (k + 1)) else Zdy set l i (k + 1)
def ZcJ (rs : List Zaa) (x : ByteArray) : Option (Nat × Int) :=
 if setB x = false then some (0, 9)
 else if (rsChk (ofB rs x)).2 ≠ 0 then some (rsChk (ofB rs x))
 else match apartD (ofB rs x) with | some e => some (e.rule.toNat, 13) | none => none
def Zdv (rs : List Zaa) : List ByteArray → Option (Zax × Int)
 | [] => none
 | x :: l => match ZcJ rs x with | some (i, e) => some (Zdy x rs i 0, e) | none => Zdv rs l
def setsD (s : Zaf) : Option (Zax × Int) := Zdv s.rules (Za0 s.rules [])
def ZbD (s : Zaf) : List ByteArray → List ByteArray → Nat → Option (Zax × Int)
 | [], _, _ => none
 | x :: l, seen, i =>
  let r := ofB s.rules x
  if r = [] then some (⟨4, i, 0⟩, 9)
  else if memB x seen then some (⟨4, i, 0⟩, 10)
  else if Zaj r ≠ 0 ∨ (Zc1 r).2 = false then some (⟨4, i, 0⟩, 14)
  else ZbD s l (seen ++ [x]) (i + 1)
def Zbd (rs : List Zaa) (e : DEra) : List Zaa := if e.kind = 2 then ofB rs e.set else []
def ZaP (rs : List Zaa) (e : DEra) : List (Int × ByteArray) := if e.kind = 1 then [(e.save, ByteArray.empty)] else if e.kind = 2 then (Zbd rs e).map fun r => (r.save, r.letter) else [(0, ByteArray.empty)]
def Zci (off save : Int) : Bool := decide (-54000 ≤ off + save) && decide (off + save ≤ 54000)
def dU0 : Za6 := ⟨false, 0, 0, ⟨0, 0, 0⟩, ⟨0, 0⟩⟩
def unusedB (e : DEra) : Bool := (!decide (e.kind = 1) && !decide (e.save = 0)) || (!decide (e.kind = 2) && !decide (e.set = ByteArray.empty)) || (!e.til.is && !decide ({ e.til with is := false } = dU0))
def ZeC (rs : List Zaa) (e : DEra) (first : Bool) : Int :=
 if e.kind < 0 ∨ 2 < e.kind then 2
 else if first = true ∧ e.kind = 2 then 12
 else if e.kind = 2 ∧ Zbd rs e = [] then 9
 else if e.kind = 1 ∧ (e.save < 1 ∨ 10800 < e.save) then 14
 else if Zci e.off 0 = false ∨ ((ZaP rs e).any fun x => !Zci e.off x.1) = true then 3
 else if unusedB e then 2
 else fmtChk e (Zbd rs e)
def dE0 : DEra := ⟨0, 0, 0, ByteArray.empty, ByteArray.empty, dU0⟩
def endChk (rs : List Zaa) (l : List DEra) (k : Nat) : Int :=
 let e := l.getD k dE0
 if e.til.is ≠ decide (k + 1 < l.length) then 12
 else if e.til.is = false then 0
 else
  let least := Zaj (Zbd rs e)
  if ZaU e.til least ≠ 0 then ZaU e.til least
  else
   let n := (ZaE e.til least).1
   let b := l.getD (k - 1) dE0
   if 0 < k ∧ ((ZaE b.til (Zaj (Zbd rs b))).2 ≠ 0 ∨ n - (ZaE b.til (Zaj (Zbd rs b))).1 < 259200) then 12
   else if e.kind = 2 ∧ farD (Zbd rs e) n = false then 13
   else 0
def addP (x : Int × List UInt8) (l : List (Int × List UInt8)) : List (Int × List UInt8) := if x ∈ l then l else l ++ [x]
def addA (x : List UInt8) (l : List (List UInt8)) : List (List UInt8) := if x ∈ l then l else l ++ [x]
def stGo (e : DEra) : List (Int × ByteArray) → List (Int × List UInt8) × List (List UInt8) → List (Int × List UInt8) × List (List UInt8)
 | [], acc => acc
 | x :: l, acc =>
  let a := (Zcg e.format.data.toList e.off x.1 x.2.data.toList).1
  stGo e l (addP (e.off + x.1, a) acc.1, addA a acc.2)
def erGo (rs : List Zaa) : List DEra → List (Int × List UInt8) × List (List UInt8) → List (Int × List UInt8) × List (List UInt8)
 | [], acc => acc
 | e :: l, acc => erGo rs l (stGo e (ZaP rs e) acc)
def ZcX : List (List UInt8) → Nat
 | [] => 0
 | x :: l => x.length + 1 + ZcX l
def fewB25 (rs : List Zaa) (z : ZaN) : Bool := decide ((erGo rs z.eras ([], [])).1.length ≤ 120) && decide (ZcX (erGo rs z.eras ([], [])).2 ≤ 250)
def ZdF (rs : List Zaa) (l : List DEra) (i : Nat) : Nat → Nat → Option (Zax × Int)
 | 0, _ => none
 | f + 1, k =>
  if ZeC rs (l.getD k dE0) (decide (k = 0)) ≠ 0 then some (⟨2, i, k⟩, ZeC rs (l.getD k dE0) (decide (k = 0)))
  else if endChk rs l k ≠ 0 then some (⟨2, i, k⟩, endChk rs l k)
  else ZdF rs l i f (k + 1)
def Zb5 (rs : List Zaa) : List ZaN → Nat → Option (Zax × Int)
 | [], _ => none
 | z :: l, i =>
  if z.eras = [] then some (⟨2, i, 0⟩, 4)
  else match ZdF rs z.eras i z.eras.length 0 with
   | some x => some x
   | none => if fewB25 rs z = false then some (⟨2, i, 0⟩, 7) else Zb5 rs l (i + 1)
def accD (s : Zaf) : Option (Zax × Int) := (Zeb s).or ((setsD s).or ((ZbD s s.shifts [] 0).or ((Zb8 s).or (Zb5 s.rules s.zones 0))))
theorem ordE_lt (a b : Zac) : ordE a b < 0 ↔ a.nominal < b.nominal ∨ (a.nominal = b.nominal ∧ (a.rule < b.rule ∨ (a.rule = b.rule ∧ a.year < b.year))) := by
 unfold ordE
 repeat' split
 all_goals omega
def ltE (x y : Zac) : Bool := decide (ordE x y < 0)
theorem swoE : Go.Sort.SWO ltE where
 irrefl x := by simp only [ltE, ordE_lt, decide_eq_false_iff_not]; omega
 trans x y z h1 h2 := by simp only [ltE, ordE_lt, decide_eq_true_eq] at *; omega
 ntrans x y z h1 h2 := by simp only [ltE, ordE_lt, decide_eq_false_iff_not] at *; omega
theorem totE (x y : Zac) (h1 : ltE x y = false) (h2 : ltE y x = false) : x = y := by
 simp only [ltE, ordE_lt, decide_eq_false_iff_not] at h1 h2
 obtain ⟨a, b, c⟩ := x
 obtain ⟨d, e, f⟩ := y
 simp only [Zac.mk.injEq]
 simp only at h1 h2
 omega
def ZdL (least y : Int) : List Zaa → Nat → List Zac
 | [], _ => []
 | r :: l, i => (onR least r i y).toList ++ ZdL least y l (i + 1)
def allC (l : List Zaa) (least from_ : Int) : Nat → List Zac
 | 0 => []
 | k + 1 => allC l least from_ k ++ ZdL least (from_ + k) l 0
def insF (a : List Zac) (e : Zac) : List Zac := insE e a
theorem yearEvs_eq (least y : Int) : ∀ (l : List Zaa) (i : Nat) (acc : List Zac), yearEvs least y l i acc = (ZdL least y l i).foldl insF acc
 | [], _, _ => rfl
 | r :: l, i, acc => by
  rw [yearEvs, ZdL, yearEvs_eq least y l]
  cases onR least r i y with
  | none => rfl
  | some e => rfl
theorem insE_perm (e : Zac) : ∀ l, (insE e l).Perm (e :: l)
 | [] => .refl _
 | x :: l => by
  rw [insE]
  split
  ·exact .refl _
  ·exact ((insE_perm e l).cons x).trans (.swap _ _ _)
theorem insF_perm : ∀ (xs acc : List Zac), (xs.foldl insF acc).Perm (xs ++ acc)
 | [], _ => .refl _
 | x :: xs, acc => by
  rw [List.foldl_cons]
  refine (insF_perm xs _).trans ?_
  refine ((insE_perm x acc).append_left xs).trans ?_
  exact List.perm_middle
theorem Zd3 (l : List Zaa) (least from_ : Int) : ∀ k, (allEvs l least from_ k).Perm (allC l least from_ k)
 | 0 => .refl _
 | k + 1 => by
  rw [allEvs, allC, yearEvs_eq]
  refine (insF_perm _ _).trans ?_
  refine List.perm_append_comm.trans ?_
  exact (Zd3 l least from_ k).append_right _
def DescE (l : List Zac) : Prop := l.Pairwise fun a b => ltE a b = false
theorem insE_desc (e : Zac) : ∀ l, DescE l → DescE (insE e l)
 | [], _ => List.pairwise_singleton _ _
 | x :: l, h => by
  obtain ⟨h1, h2⟩ := List.pairwise_cons.1 h
  rw [insE]
  split
  ·rename_i hlt
   have hx : ltE x e = true := decide_eq_true hlt
   have hex : ltE e x = false := by
    cases h3 : ltE e x
    ·rfl
    ·have := swoE.trans x e x hx h3
     rw [swoE.irrefl] at this
     cases this
   refine List.pairwise_cons.2 ⟨fun b hb => ?_, h⟩
   rcases List.mem_cons.1 hb with rfl | hb
   ·exact hex
   ·exact swoE.ntrans e x b hex (h1 b hb)
  ·rename_i hlt
   have hx : ltE x e = false := decide_eq_false hlt
   refine List.pairwise_cons.2 ⟨fun b hb => ?_, insE_desc e l h2⟩
   rcases List.mem_cons.1 ((insE_perm e l).mem_iff.1 hb) with rfl | hb
   ·exact hx
   ·exact h1 b hb
theorem insF_desc : ∀ (xs acc : List Zac), DescE acc → DescE (xs.foldl insF acc)
 | [], _, h => h
 | x :: xs, acc, h => insF_desc xs _ (insE_desc x acc h)
theorem allEvs_desc (l : List Zaa) (least from_ : Int) : ∀ k, DescE (allEvs l least from_ k)
 | 0 => List.Pairwise.nil
 | k + 1 => by
  rw [allEvs, yearEvs_eq]
  exact insF_desc _ _ (allEvs_desc l least from_ k)
theorem sortE_eq (l : List Zaa) (least from_ : Int) (k : Nat) : (allC l least from_ k).mergeSort (fun x y => !ltE y x) = (allEvs l least from_ k).reverse := by
 refine List.Perm.eq_of_pairwise (le := fun x y => (!ltE y x) = true) ?_ ?_ ?_ ?_
 ·intro a b _ _ h1 h2
  simp only [Bool.not_eq_true'] at h1 h2
  exact totE a b h2 h1
 ·refine List.pairwise_mergeSort ?_ ?_ _
  ·intro a b c h1 h2
   simp only [Bool.not_eq_true'] at h1 h2 ⊢
   exact swoE.ntrans c b a h2 h1
  ·intro a b
   cases h : ltE b a with
   | false => simp
   | true =>
    have : ltE a b = false := by
     cases h3 : ltE a b
     ·rfl
     ·have := swoE.trans a b a h3 h
      rw [swoE.irrefl] at this
      cases this
    simp [this]
 ·rw [List.pairwise_reverse]
  exact (allEvs_desc l least from_ k).imp fun h => by rw [h]; rfl
 ·exact (List.mergeSort_perm _ _).trans ((Zd3 l least from_ k).symm.trans (List.reverse_perm _).symm)
def ZcH : List Zac → Option Zac
 | a :: b :: l => if b.nominal - a.nominal < 259200 then some b else ZcH (b :: l)
 | _ => none
theorem closeA_snoc (x y : Zac) : ∀ l : List Zac, ZcH (l ++ [x, y]) = (ZcH (l ++ [x])).or (if y.nominal - x.nominal < 259200 then some y else none)
 | [] => by simp [ZcH]
 | [a] => by
  simp only [List.cons_append, List.nil_append, ZcH]
  by_cases h : x.nominal - a.nominal < 259200 <;> simp [h]
 | a :: b :: l => by
  have ih := closeA_snoc x y (b :: l)
  simp only [List.cons_append, ZcH] at ih ⊢
  by_cases h : b.nominal - a.nominal < 259200
  ·simp [h]
  ·simp only [if_neg h]
   exact ih
theorem closeA_rev : ∀ l : List Zac, ZcH l.reverse = closeE l
 | [] => rfl
 | [_] => rfl
 | a :: b :: l => by
  have ih := closeA_rev (b :: l)
  rw [List.reverse_cons] at ih
  rw [closeE, ← ih, List.reverse_cons, List.reverse_cons, List.append_assoc]
  exact closeA_snoc b a l.reverse
theorem apartD_eq (l : List Zaa) : ZcH ((allC l (Zaj l) 1850 701).mergeSort fun x y => !ltE y x) = apartD l := by
 rw [sortE_eq, closeA_rev]; rfl
end Go.Proofs.YtpcpmndldgejiaaGreatDoor
namespace Go.Wk
open Go Go.RowKit
def beIn (least nominal : Int) (r : Zaa) (i y : Int) : Nat → Option Zac
 | 0 => none
 | k + 1 => match onR least r i y with
  | some e => if e.nominal < nominal then some e else beIn least nominal r i (y - 1) k
  | none => beIn least nominal r i (y - 1) k
def befGo (least nominal yr : Int) : List Zaa → Nat → Option Zac → Option Zac
 | [], _, best => best
 | r :: l, i, best =>
  befGo least nominal yr l (i + 1) (match beIn least nominal r i (min (lastY r) (yr + 2)) 20 with
   | none => best
   | some e => match best with | none => some e | some b => if ordE b e < 0 then some e else some b)
def befD (l : List Zaa) (nominal : Int) : Option Zac := befGo (Zaj l) nominal (Zej nominal) l 0 none
def fiIn (least : Int) (r : Zaa) (i y : Int) : Nat → Option Zac
 | 0 => none
 | k + 1 => match onR least r i y with
  | some e => some e
  | none => fiIn least r i (y + 1) k
def firL (least : Int) : List Zaa → Nat → List Zac
 | [], _ => []
 | r :: l, i => (fiIn least r i (max r.from_ (-2000000000)) 9).toList ++ firL least l (i + 1)
def dR0 : Zaa := ⟨ByteArray.empty, 0, 0, 0, ⟨0, 0, 0⟩, ⟨0, 0⟩, 0, ByteArray.empty⟩
def ruE (l : List Zaa) (e : Zac) : Zaa := l.getD e.rule.toNat dR0
def fstB (l : List Zaa) (all : Bool) (but : Int) (best : Option Zac) (e : Zac) : Option Zac :=
 if (!all && decide ((ruE l e).save = but)) || (match best with | some b => decide (b.nominal ≤ e.nominal) | none => false) then best else some e
def fstD (l : List Zaa) (all : Bool) (but : Int) : Option Zac := (firL (Zaj l) l 0).foldl (fstB l all but) none
def behS (l : List Zaa) (e : Zac) : Int × ByteArray := ((ruE l e).save, (ruE l e).letter)
def iniS (l : List Zaa) : Int × ByteArray :=
 match fstD l true 0 with
 | none => (0, ByteArray.empty)
 | some e => match fstD l false (ruE l e).save with
  | some o => behS l o
  | none => behS l e
def befS (l : List Zaa) (nominal : Int) : Int × ByteArray :=
 match befD l nominal with
 | some e => behS l e
 | none => iniS l
def instE (l : List Zaa) (e : Zac) (off : Int) : Int :=
 if (ruE l e).at_.base = 1 then e.nominal - max (Zaj l) (-10800) - off
 else if (ruE l e).at_.base = 0 then e.nominal - (befS l e.nominal).1 - off
 else e.nominal
end Go.Wk
namespace Go.Proofs.YtpcpmndldgejiaaGreatDoor
open Go Go.RowKit Go.Wk
def fnV (f : Nat) : Value := .func (.func f) #[] #[]
def kindCells : List Value := [.bool false, .bool true, fnV 300, .bool true, .bool false, fnV 301, .bool true, .bool true, fnV 303, .bool true, .bool true, fnV 305]
def condCells : List Value := [fnV 290, .int .i64 3, fnV 292, .int .i64 12, fnV 293, .int .i64 3, fnV 295, .int .i64 3, fnV 297, .int .i64 14, fnV 298, .int .i64 15]
structure Glob (w : World) : Prop where
 bef : Zap w ⟨1, 0, none⟩ (Zbf.map fun n => .int .i64 n)
 kin : Zap w ⟨4, 3, none⟩ kindCells
 con : Zap w ⟨2, 0, none⟩ condCells
theorem Glob.up {w w' : World} (h : Glob w) (hb : Bel w.heap.size w w') : Glob w' :=
 ⟨h.bef.up hb (Nat.le_refl _), h.kin.up hb (Nat.le_refl _), h.con.up hb (Nat.le_refl _)⟩
end Go.Proofs.YtpcpmndldgejiaaGreatDoor
namespace Go.Wk
open Go Go.RowKit
theorem split_eq (a b : Int) (hb : 0 < b) : (a.tmod b < 0 → a.tdiv b - 1 = a / b ∧ a.tmod b + b = a % b) ∧ (¬ a.tmod b < 0 → a.tdiv b = a / b ∧ a.tmod b = a % b) := by
 have h1 := Int.mul_tdiv_add_tmod a b
 have h2 := Int.tmod_lt_of_pos a hb
 have h3 := Int.lt_tmod_of_pos a hb
 have key : ∀ q r : Int, b * q + r = a → 0 ≤ r → r < b → q = a / b ∧ r = a % b := fun q r h0 h4 h5 => by
  have := (Int.ediv_emod_unique (a := a) (r := r) (q := q) hb).2 ⟨by omega, h4, h5⟩
  exact ⟨this.1.symm, this.2.symm⟩
 constructor
 ·intro h
  exact key _ _ (by rw [Int.mul_sub]; omega) (by omega) (by omega)
 ·intro h
  exact key _ _ h1 (by omega) h2
theorem tmod_zero (a b : Int) : a.tmod b = 0 ↔ a % b = 0 := by rw [← Int.dvd_iff_tmod_eq_zero, ← Int.dvd_iff_emod_eq_zero]
theorem tdiv_bd (a b : Int) : -(a.natAbs : Int) ≤ a.tdiv b ∧ a.tdiv b ≤ a.natAbs := by
 have h1 := Int.natAbs_tdiv_le_natAbs a b
 omega
section
variable {P : Program} {n : Nat} {wr : World} {fr : Fr} {O : List It} {ty : TypeId}
theorem Pu_quoT {t t' : TypeId} {x y : Operand} {i j : Int} (hx : ev fr x = some (.int .i64 i)) (hy : ev fr y = some (.int .i64 j)) (hj : j ≠ 0) (hn : i.natAbs ≤ 9223372036854775807) : Pu P n wr fr O (.binOp .quo t x y t') ty (.int .i64 (i.tdiv j)) := by
 have := Pu_quo (P := P) (n := n) (wr := wr) (O := O) (ty := ty) (t := t) (t' := t') hx hy hj
 have hb := tdiv_bd i j
 rwa [Zb6 (by omega)] at this
theorem Pu_maxJ {x y : Operand} {ts : Array TypeId} {k : IntKind} {i j : Int} (hx : ev fr x = some (.int k i)) (hy : ev fr y = some (.int k j)) : Pu P n wr fr O (.call ⟨.builtin .max, #[x, y], ts⟩) ty (.int k (if i < j then j else i)) :=
 fun a w hs _ _ _ _ => by simp [execOp, resolve, invoke, builtin, Builtin.max_, Builtin.max2, hs.sim.ev hx, hs.sim.ev hy]
theorem Zbn {t len e sz : Nat} {ag : Bool} {x ix : Operand} {ad : Addr} {kk : IntKind} {i : Int} [hA : ArrT P t len e sz ag] (hx : ev fr x = some (.pointer (some ad))) (hi : ev fr ix = some (.int kk i)) (h0 : 0 ≤ i) (h1 : i < len) :
  Pu P n wr fr O (.indexAddr t x ix) ty (.pointer (some (ad.add (i.toNat * sz)))) :=
 fun a w hs _ _ _ _ => by
  have h := hA.h
  unfold arrChk at h
  split at h
  ·rename_i len' e' hu
   split at h
   ·rename_i sz' ag' ht
    simp only [Option.some.injEq, Prod.mk.injEq] at h
    obtain ⟨rfl, rfl, rfl, rfl⟩ := h
    obtain ⟨inf, dd, hinf, hsz, _, _⟩ := Ty.parts ht
    simp [execOp, hs.sim.ev hx, hs.sim.ev hi, Instr.indexAt, asIntOf, run_underlying hu, Instr.sureAddr, h0, h1, sizeOf, ZaJ hinf, hsz]
   ·cases h
  ·cases h
end
section
variable {P : Program} {n : Nat} {wr : World} {ops : Array Oper} {rest : List Oper} {K : Fr → List It → Prop} {fr : Fr} {O : List It} {ty : TypeId} {pos : String} {af : Array Edge}
theorem RL_und {d' : Nat} {op : Op} {j : Nat} {b : Bool} {oj : Oper} {d : Nat} (hj : ops[j]? = some oj) (hd : oj.dst = some d) (hb : look fr d = some undef) (hdn : Nat.ble (d' + 1) n = true)
  (k : RL P n wr ops rest K ((d', undef) :: fr) O) : RL P n wr ops (⟨some d', op, ty, pos, af, some (j, b)⟩ :: rest) K fr O := by
 intro a w hs
 have := k (a.put (some d') undef) w ⟨hs.sim.put hdn undef, hs.old, hs.own⟩
 have hw : Region.wanted (⟨some d', op, ty, pos, af, some (j, b)⟩ : Oper) (yielded ops a.tmps) = false := by
  have hy : yielded ops a.tmps j = none := by simp [yielded, hj, hd, hs.sim.at_ d _ hb, undef]
  simp only [Region.wanted, hy]
  cases b <;> rfl
 simp only [wpList, hw]
 exact this
end
def yN (r : Nat) : Nat := (r - r / 1460 + r / 36524 - r / 146096) / 365
def okYN (r : Nat) : Bool := Nat.ble (yN r) 399 && Nat.ble (yN r * 365 + yN r / 4 - yN r / 100) r && Nat.ble (r - (yN r * 365 + yN r / 4 - yN r / 100)) 366 && (Nat.blt r ((yN r + 1) * 365 + (yN r + 1) / 4 - (yN r + 1) / 100) || Nat.beq (yN r) 399)
def allYN : Nat → Nat → Bool
 | 0, _ => true
 | k + 1, r => okYN r && allYN k (r + 1)
theorem allYN_get : ∀ (k r i : Nat), allYN k r = true → i < k → okYN (r + i) = true
 | 0, _, _, _, h => by omega
 | k + 1, r, i, h, hi => by
  rw [allYN, Bool.and_eq_true] at h
  cases i with
  | zero => exact h.1
  | succ i =>
   have := allYN_get k (r + 1) i h.2 (by omega)
   rwa [show r + 1 + i = r + (i + 1) by omega] at this
theorem allYN_all : ∀ c, c < 1461 → allYN (if c = 1460 then 97 else 100) (100 * c) = true := by decide +kernel
theorem yearN_nat (r : Nat) : Zee (r : Int) = (yN r : Nat) := by
 unfold Zee yN
 omega
theorem yearN_all (k : Nat) (h1 : k < 146097) : okYN k = true := by
 have h := allYN_get _ (100 * (k / 100)) (k % 100) (allYN_all _ (by omega)) (by split <;> omega)
 rwa [show 100 * (k / 100) + k % 100 = k by omega] at h
theorem yearN_bd (r : Int) (h0 : 0 ≤ r) (h1 : r < 146097) : 0 ≤ Zee r ∧ Zee r ≤ 399 ∧ 0 ≤ r - (Zee r * 365 + Zee r / 4 - Zee r / 100) ∧ r - (Zee r * 365 + Zee r / 4 - Zee r / 100) ≤ 366 := by
 obtain ⟨k, rfl⟩ := Int.eq_ofNat_of_zero_le h0
 have h := yearN_all k (by omega)
 simp only [okYN, Bool.and_eq_true, Nat.ble_eq] at h
 rw [yearN_nat]
 omega
end Go.Wk
