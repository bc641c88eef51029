/- More rules: numbers in their ranges; literals of strings that are indexed. -/
import Derived.Test.YtfhjfpikngcknaaDoorWkL
namespace Go.Wk
open Go Go.RowKit
theorem inR_u8 {n : Int} : inR .u8 n ↔ 0 ≤ n ∧ n ≤ 255 := Iff.rfl
theorem inR_u16 {n : Int} : inR .u16 n ↔ 0 ≤ n ∧ n ≤ 65535 := Iff.rfl
theorem inR_u32 {n : Int} : inR .u32 n ↔ 0 ≤ n ∧ n ≤ 4294967295 := Iff.rfl
theorem inR_i8 {n : Int} : inR .i8 n ↔ -128 ≤ n ∧ n ≤ 127 := Iff.rfl
theorem inR_i16 {n : Int} : inR .i16 n ↔ -32768 ≤ n ∧ n ≤ 32767 := Iff.rfl
theorem inR_i32 {n : Int} : inR .i32 n ↔ -2147483648 ≤ n ∧ n ≤ 2147483647 := Iff.rfl
theorem inR_i64 {n : Int} : inR .i64 n ↔ -9223372036854775808 ≤ n ∧ n ≤ 9223372036854775807 := Iff.rfl
section
variable {P : Program} {n : Nat} {wr : World} {fr : Fr} {O : List It} {ty : TypeId}
theorem Pu_conv64 {t t' : TypeId} {x : Operand} {kk : IntKind} {i : Int} {sz : Nat} {ag : Bool} [Ty P t sz ag] [IntT P t' .i64] (hx : ev fr x = some (.int kk i)) (h : -9223372036854775808 ≤ i ∧ i ≤ 9223372036854775807) : Pu P n wr fr O (.convert t t' x) ty (.int .i64 i) := by
  have := Pu_convI (P := P) (n := n) (wr := wr) (O := O) (ty := ty) (t := t) (t' := t') hx
  rwa [wrap64_id h] at this
theorem Pu_remE {t t' : TypeId} {x y : Operand} {kk : IntKind} {i j : Int} (hx : ev fr x = some (.int kk i)) (hy : ev fr y = some (.int kk j)) (h0 : 0 ≤ i) (hj : 0 < j) : Pu P n wr fr O (.binOp .rem t x y t') ty (.int kk (i % j)) := by
  have := Pu_rem (P := P) (n := n) (wr := wr) (O := O) (ty := ty) (t := t) (t' := t') hx hy (by omega)
  rwa [Int.tmod_eq_emod_of_nonneg h0] at this
theorem quo_in {i j M : Int} (h0 : 0 ≤ i) (h1 : i ≤ M) (hj : 0 < j) : 0 ≤ i / j ∧ i / j ≤ M := by
  have h2 : 0 ≤ i / j := Int.ediv_nonneg h0 (by omega)
  have h3 : i / j ≤ i := Int.ediv_le_self _ h0
  omega
theorem Pu_quo8 {t t' : TypeId} {x y : Operand} {i j : Int} (hx : ev fr x = some (.int .u8 i)) (hy : ev fr y = some (.int .u8 j)) (h0 : 0 ≤ i) (h1 : i ≤ 255) (hj : 0 < j) : Pu P n wr fr O (.binOp .quo t x y t') ty (.int .u8 (i / j)) := by
  have := Pu_quo (P := P) (n := n) (wr := wr) (O := O) (ty := ty) (t := t) (t' := t') hx hy (by omega)
  have hq := quo_in h0 h1 hj
  rwa [Int.tdiv_eq_ediv_of_nonneg h0, show IntKind.u8.wrap (i / j) = i / j from by simp [IntKind.wrap, IntKind.signed, IntKind.bits]; omega] at this
theorem Pu_quo16 {t t' : TypeId} {x y : Operand} {i j : Int} (hx : ev fr x = some (.int .u16 i)) (hy : ev fr y = some (.int .u16 j)) (h0 : 0 ≤ i) (h1 : i ≤ 65535) (hj : 0 < j) : Pu P n wr fr O (.binOp .quo t x y t') ty (.int .u16 (i / j)) := by
  have := Pu_quo (P := P) (n := n) (wr := wr) (O := O) (ty := ty) (t := t) (t' := t') hx hy (by omega)
  have hq := quo_in h0 h1 hj
  rwa [Int.tdiv_eq_ediv_of_nonneg h0, show IntKind.u16.wrap (i / j) = i / j from by simp [IntKind.wrap, IntKind.signed, IntKind.bits]; omega] at this
theorem Pu_quo64 {t t' : TypeId} {x y : Operand} {i j : Int} (hx : ev fr x = some (.int .i64 i)) (hy : ev fr y = some (.int .i64 j)) (h0 : 0 ≤ i) (h1 : i ≤ 9223372036854775807) (hj : 0 < j) : Pu P n wr fr O (.binOp .quo t x y t') ty (.int .i64 (i / j)) := by
  have := Pu_quo (P := P) (n := n) (wr := wr) (O := O) (ty := ty) (t := t) (t' := t') hx hy (by omega)
  have hq := quo_in h0 h1 hj
  rwa [Int.tdiv_eq_ediv_of_nonneg h0, wrap64_id (by omega)] at this

theorem sliceZ_len (len sz : Nat) (z : List Value) : (sliceZ len sz z).length = len * sz := by simp [sliceZ]
/-- The strings of a literal. -/
def strsOf : List Value → List ByteArray
  | [] => []
  | .string s :: l => s :: strsOf l
  | _ :: l => strsOf l
theorem Pu_loadLit {t sz b j bt : Nat} {x : Operand} {cs : List Value} {R : List It} [Ty P t sz false] (hx : ev fr x = some (.pointer (some ((adr (some ⟨b, 0, none⟩)).add (j * 1))))) (hp : Pick (.blk b cs bt) O R) (hcs : (strsOf cs).map Value.string = cs) (hj : j < cs.length) :
    Pu P n wr fr O (.load t x) ty (.string ((strsOf cs).getD j ByteArray.empty)) :=
  Pu_load1 hx fun w _ hO => by
    have hl : j < (strsOf cs).length := by rw [← hcs] at hj; simpa using hj
    have hc : cs[j]? = some (.string ((strsOf cs).getD j ByteArray.empty)) := by
      generalize strsOf cs = L at hcs hl
      subst hcs
      simp [hl]
    rw [show (adr (some (⟨b, 0, none⟩ : Addr))).add (j * 1) = ⟨b, 0 + j, none⟩ from by rw [Nat.mul_one]; exact add_mk b 0 j, blk_cell (hO.of hp), Nat.zero_add, hc]
end

/-! lists of cells in normal form -/
inductive Nf : List Value → List Value → Prop
  | nil : Nf [] []
  | cons {x : Value} {l l' : List Value} : Nf l l' → Nf (x :: l) (x :: l')
theorem Nf.eq {l l' : List Value} (h : Nf l l') : l = l' := by
  induction h with
  | nil => rfl
  | cons _ ih => rw [ih]
inductive SetAt : List Value → Nat → Value → List Value → Prop
  | here {x v : Value} {l : List Value} : SetAt (x :: l) 0 v (v :: l)
  | there {x v : Value} {j : Nat} {l l' : List Value} : SetAt l j v l' → SetAt (x :: l) (j + 1) v (x :: l')
theorem SetAt.eq {l l' : List Value} {j : Nat} {v : Value} (h : SetAt l j v l') : l.set j v = l' := by
  induction h with
  | here => rfl
  | there _ ih => rw [List.set_cons_succ, ih]
inductive Lay : List Value → Nat → List Value → List Value → Prop
  | nil {cs : List Value} {j : Nat} : Lay cs j [] cs
  | cons {cs cs1 cs2 vs : List Value} {j : Nat} {v : Value} : SetAt cs j v cs1 → Lay cs1 (j + 1) vs cs2 → Lay cs j (v :: vs) cs2
theorem Lay.eq {cs cs' vs : List Value} {j : Nat} (h : Lay cs j vs cs') : lay cs j vs = cs' := by
  induction h with
  | nil => rfl
  | cons h _ ih => rw [lay, h.eq, ih]
section
variable {P : Program} {n : Nat} {wr : World} {ops : Array Oper} {fr : Fr} {O : List It} {ty : TypeId} {pos : String} {af : Array Edge} {dst : Option Tmp} {g : Option (Nat × Bool)} {Kp : Value → List It → Prop}
theorem Pu_fieldAddr0 {s f off sz b : Nat} {ag : Bool} {x : Operand} [FieldAt P s f off sz ag] (hx : ev fr x = some (.pointer (some ⟨b, 0, none⟩))) : Pu P n wr fr O (.fieldAddr s x f) ty (.pointer (some ⟨b, off, none⟩)) := by
  have h := Pu_fieldAddr (P := P) (n := n) (wr := wr) (O := O) (ty := ty) (s := s) (f := f) hx
  rwa [add_mk, Nat.zero_add] at h
theorem Pu_loadNf {t sz b j : Nat} {x : Operand} {cs vs : List Value} {bt : TypeId} {R : List It} [Ty P t sz true] (hx : ev fr x = some (.pointer (some ⟨b, j, none⟩))) (hp : Pick (.blk b cs bt) O R) (hv : Nf ((cs.drop j).take sz) vs) (hl : vs.length = sz) : Pu P n wr fr O (.load t x) ty (.agg vs.toArray) := Pu_loadBN hx hp hv.eq hl
theorem Pu_fieldNf {s f off sz : Nat} {x : Operand} {cs vs : List Value} [FieldAt P s f off sz true] (hx : ev fr x = some (.agg cs.toArray)) (hv : Nf ((cs.drop off).take sz) vs) : Pu P n wr fr O (.field s x f) ty (.agg vs.toArray) := Pu_fieldN hx hv.eq
theorem Pu_buildNf {t : TypeId} {ps : List (Nat × Operand)} {vs : List (Nat × Value)} {z cs cs' : List Value} {ls : List (Nat × Nat)} [ZeroT P t z] [LayT P t ls] (hx : evpO fr ps = some vs) (hb : bld ls z vs = some cs) (hn : Nf cs cs') : Pu P n wr fr O (.build t ps.toArray) ty (.agg cs'.toArray) := by
  have h := Pu_build (P := P) (n := n) (wr := wr) (O := O) (ty := ty) (t := t) hx hb
  rwa [hn.eq] at h
theorem Stp_storeNf {t sz b j : Nat} {ag : Bool} {x y : Operand} {cs : List Value} {bt : TypeId} {v : Value} {vs cs' : List Value} {O' : List It} [Ty P t sz ag] (hx : ev fr x = some (.pointer (some ⟨b, j, none⟩))) (hy : ev fr y = some v)
    (hu : Upd O (.blk b cs bt) (.blk b cs' bt) O') (hvs : Nf v.cells.toList vs) (hl : vs.length = sz) (h1 : vs.all Value.oneCell' = true) (hj : Nat.ble (j + sz) cs.length = true) (hc : Lay cs j vs cs')
    (k : Kp undef O') : Stp P n wr fr O ⟨dst, .store t x y, ty, pos, af, g⟩ Kp := Stp_storeB hx hy hu hvs.eq hl h1 hj hc.eq k
theorem Stp_boxNf {t : TypeId} {x : Operand} {v : Value} {cs : List Value} (hx : ev fr x = some v) (hn : Nf v.cells.toList cs) (k : ∀ b, Kp (.pointer (some ⟨b, 0, none⟩)) (.blk b cs t :: O)) : Stp P n wr fr O ⟨dst, .box t x, ty, pos, af, g⟩ Kp := Stp_box hx (by rw [hn.eq]; exact k)
theorem Stp_buildSliceNf {t e sz bytes len : Nat} {z : List Value} {ps : List (Nat × Operand)} {vs : List (Nat × Value)} {cs cs' : List Value} [ElemZ P t e sz bytes] [ZeroT P e z] (hx : evpO fr ps = some vs) (hlen : Nat.ble (len * sz) 16777216 = true)
    (hb : bld (places len sz) (sliceZ len sz z) vs = some cs) (hn : Nf cs cs') (kk : ∀ b, Kp (.slice (some ⟨b, 0, none⟩) len len) (.blk b cs' e :: O)) : Stp P n wr fr O ⟨dst, .buildSlice t len ps.toArray, ty, pos, af, g⟩ Kp := Stp_buildSlice hx hlen hb (by rw [hn.eq]; exact kk)
theorem Ay_buildSliceNf {t e sz bytes len : Nat} {z : List Value} {ps : List (Nat × Operand)} {vs : List (Nat × Value)} {cs cs' : List Value} {d i dd : Nat} [ElemZ P t e sz bytes] [ZeroT P e z] (hx : evpO fr ps = some vs) (hlen : Nat.ble (len * sz) 16777216 = true)
    (hb : bld (places len sz) (sliceZ len sz z) vs = some cs) (hn : Nf cs cs') : Ay P n wr ops fr ⟨some d, .buildSlice t len ps.toArray, ty, pos, af, none⟩ ⟨i, dd, fun b => .slice (some ⟨b, 0, none⟩) len len, cs', e, fun b => .blk b cs' e⟩ := by
  have h := Ay_buildSlice (P := P) (n := n) (wr := wr) (ops := ops) (fr := fr) (ty := ty) (pos := pos) (af := af) (t := t) (d := d) (i := i) (dd := dd) hx hlen hb
  rwa [hn.eq] at h
/-! literals that name all their elements, in order -/
def inOrd (sz : Nat) : Nat → List (Nat × Value) → Bool
  | _, [] => true
  | i, (k, v) :: r => Nat.beq k i && Nat.beq v.cells.toList.length sz && inOrd sz (i + 1) r
def catC : List (Nat × Value) → List Value
  | [] => []
  | (_, v) :: r => v.cells.toList ++ catC r
theorem lay_mid : ∀ (vs pre old post : List Value), old.length = vs.length → lay (pre ++ (old ++ post)) pre.length vs = pre ++ (vs ++ post)
  | [], pre, old, post, h => by
    have : old = [] := List.eq_nil_of_length_eq_zero (by simpa using h)
    simp [lay, this]
  | v :: r, pre, [], post, h => by simp at h
  | v :: r, pre, o :: old, post, h => by
    have ih := lay_mid r (pre ++ [v]) old post (by simpa using h)
    have hs : (pre ++ (o :: old ++ post)).set pre.length v = (pre ++ [v]) ++ (old ++ post) := by simp
    rw [lay, hs]
    simpa using ih
theorem bld_ord (sz len : Nat) : ∀ (vs : List (Nat × Value)) (i : Nat) (pre rest : List Value), inOrd sz i vs = true → i + vs.length = len → pre.length = i * sz → rest.length = vs.length * sz → bld (places len sz) (pre ++ rest) vs = some (pre ++ catC vs)
  | [], i, pre, rest, _, _, _, hr => by
    have : rest = [] := List.eq_nil_of_length_eq_zero (by simpa using hr)
    simp [bld, catC, this]
  | (k, v) :: r, i, pre, rest, ho, hl, hp, hr => by
    simp only [inOrd, Bool.and_eq_true] at ho
    obtain ⟨⟨h1, h2⟩, h3⟩ := ho
    have h1 := Nat.eq_of_beq_eq_true h1
    have h2 := Nat.eq_of_beq_eq_true h2
    subst h1
    simp only [List.length_cons] at hl hr
    have hm : (r.length + 1) * sz = r.length * sz + sz := Nat.succ_mul _ _
    have hk : (places len sz)[k]? = some (k * sz, sz) := by
      unfold places
      rw [List.getElem?_map, List.getElem?_range (by omega)]
      rfl
    have ih := bld_ord sz len r (k + 1) (pre ++ v.cells.toList) (rest.drop sz) h3 (by omega) (by rw [List.length_append, hp, h2, Nat.succ_mul]) (by rw [List.length_drop, hr]; omega)
    have hrest : rest = rest.take sz ++ rest.drop sz := (List.take_append_drop sz rest).symm
    have hlay : lay (pre ++ rest) (k * sz) v.cells.toList = (pre ++ v.cells.toList) ++ rest.drop sz := by
      rw [← hp]
      conv => lhs; rw [hrest]
      rw [lay_mid _ _ _ _ (by rw [List.length_take, h2, hr]; omega)]
      simp
    simp only [bld, hk]
    have hb : (Nat.beq v.cells.toList.length sz && Nat.ble (k * sz + sz) (pre ++ rest).length) = true := by
      rw [Bool.and_eq_true]
      exact ⟨by rw [h2]; exact Nat.beq_refl sz, Nat.ble_eq_true_of_le (by rw [List.length_append, hp, hr]; omega)⟩
    rw [hb, hlay]
    simp only [cond_true, ih, catC]
    rw [List.append_assoc]
theorem bld_cat {sz len : Nat} {z : List Value} {vs : List (Nat × Value)} (h1 : inOrd sz 0 vs = true) (h2 : Nat.beq vs.length len = true) : bld (places len sz) (sliceZ len sz z) vs = some (catC vs) := by
  have h2 := Nat.eq_of_beq_eq_true h2
  have := bld_ord sz len vs 0 [] (sliceZ len sz z) h1 (by omega) (by simp) (by simp [sliceZ, h2])
  simpa using this
theorem Stp_buildSliceC {t e sz bytes len : Nat} {z : List Value} {ps : List (Nat × Operand)} {vs : List (Nat × Value)} {cs' : List Value} [ElemZ P t e sz bytes] [ZeroT P e z] (hx : evpO fr ps = some vs) (hlen : Nat.ble (len * sz) 16777216 = true)
    (h1 : inOrd sz 0 vs = true) (h2 : Nat.beq vs.length len = true) (hn : Nf (catC vs) cs') (kk : ∀ b, Kp (.slice (some ⟨b, 0, none⟩) len len) (.blk b cs' e :: O)) : Stp P n wr fr O ⟨dst, .buildSlice t len ps.toArray, ty, pos, af, g⟩ Kp := Stp_buildSlice hx hlen (bld_cat h1 h2) (by rw [hn.eq]; exact kk)
theorem Ay_buildSliceC {t e sz bytes len : Nat} {z : List Value} {ps : List (Nat × Operand)} {vs : List (Nat × Value)} {cs' : List Value} {d i dd : Nat} [ElemZ P t e sz bytes] [ZeroT P e z] (hx : evpO fr ps = some vs) (hlen : Nat.ble (len * sz) 16777216 = true)
    (h1 : inOrd sz 0 vs = true) (h2 : Nat.beq vs.length len = true) (hn : Nf (catC vs) cs') : Ay P n wr ops fr ⟨some d, .buildSlice t len ps.toArray, ty, pos, af, none⟩ ⟨i, dd, fun b => .slice (some ⟨b, 0, none⟩) len len, cs', e, fun b => .blk b cs' e⟩ := by
  have h := Ay_buildSlice (P := P) (n := n) (wr := wr) (ops := ops) (fr := fr) (ty := ty) (pos := pos) (af := af) (t := t) (d := d) (i := i) (dd := dd) hx hlen (bld_cat h1 h2)
  rwa [hn.eq] at h
end
end Go.Wk
