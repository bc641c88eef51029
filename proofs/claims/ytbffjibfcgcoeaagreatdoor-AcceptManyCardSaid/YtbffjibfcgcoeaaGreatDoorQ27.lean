/- Contract: slices.SortFunc at events, by the shelf. Contracts: events.In at the years that apart looks at, apart.Check. Contracts: accept.looker.sizes, rule, names. -/
import Derived.Shelf.SlSortCmp.NoneTotal
import Derived.Test.YtbffjibfcgcoeaaGreatDoorQ26
import Derived.Test.YtbffjibfcgcoeaaGreatDoorQ11
import Derived.Test.YtbffjibfcgcoeaaGreatDoorQ22
import Derived.Test.YtbffjibfcgcoeaaGreatDoorQ18
import Derived.Test.YtbffjibfcgcoeaaGreatDoorQ21
set_option linter.unusedVariables false
set_option linter.unusedSimpArgs false
namespace Go.Proofs.YtbffjibfcgcoeaaGreatDoor
open Go Go.RowKit Go.Wk
theorem DEvent.len (x : DEvent) : (DEvent.enc x).length = 3 := rfl
def evRow (A : Option Addr) (c : Nat) (l : List DEvent) : It := .row (.slice A l.length c) 139 3 l.length (l.flatMap DEvent.enc)
def sortedE (l : List DEvent) : List DEvent := l.mergeSort fun x y => !ltE y x
theorem sortedE_len (l : List DEvent) : (sortedE l).length = l.length := List.length_mergeSort _
instance : Inhabited DEvent := ⟨dEv0⟩
theorem flatK_eq (l : List DEvent) : Go.Sort.flatK DEvent.enc 3 l.toArray = (l.flatMap DEvent.enc).toArray := by
  have hfl := flat_len DEvent.len l
  refine Go.Sort.ext_get! (by rw [Go.Sort.size_flatK]; simp [hfl]) fun t ht => ?_
  have ht' : t < l.toArray.size * 3 := by rwa [Go.Sort.size_flatK] at ht
  rw [Go.Sort.get_flatK _ _ _ _ ht']
  have hlt : t / 3 < l.length := by simp at ht'; omega
  have h3 : t % 3 < 3 := Nat.mod_lt _ (by decide)
  have hget := flat_get DEvent.len l (t / 3) l[t / 3] (t % 3) ((DEvent.enc l[t / 3])[t % 3]'h3) (List.getElem?_eq_getElem hlt) (List.getElem?_eq_getElem h3)
  rw [show t / 3 * 3 + t % 3 = t by omega] at hget
  rw [getElem!_pos l.toArray (t / 3) (by simpa using hlt)]
  rw [show (l.flatMap DEvent.enc).toArray[t]! = (l.flatMap DEvent.enc)[t]?.getD default from by simp only [getElem!_def, List.getElem?_toArray]; cases (l.flatMap DEvent.enc)[t]? <;> rfl]
  rw [hget]
  rw [getElem!_pos (DEvent.enc _) (t % 3) (by rw [DEvent.len]; exact h3)]
  simp
  rfl
theorem sort_cmp (b : Nat) (l : List DEvent) (w : World) : CmpLays Tryz.prog 207 #[] DEvent.enc 3 ordE b 0 l.toArray.size w :=
  fun m os dk _ x y => by
    have := order_lays x y (sortWorldK DEvent.enc 3 w b 0 m dk os)
    simpa using this
theorem sortEv_in (A : Option Addr) (c : Nat) (l : List DEvent) (wr : World) (hn : l.length ≤ 1000000000) :
    DoesIn Tryz.prog 206 [.slice A l.length c, .func (.func 207) #[] #[]] wr [evRow A c l] (fun v O => v = .tuple #[] ∧ O = [evRow A c (sortedE l)]) := by
  intro w hB hH
  have hsat := hH.sat _ (List.mem_singleton.2 rfl)
  obtain ⟨hxl, ⟨hv, _⟩ | ⟨b, cap, cur, hval, hb0, hg, hmc, hcm, hsz, hcur⟩⟩ := id hsat
  · injection hv with h1 h2 h3
    obtain rfl := List.eq_nil_of_length_eq_zero h2
    subst h1 h3
    refine Calls.mono (AnyF.slices_SortFunc_none sortLay none 0 (.func (.func 207) #[] #[]) w) ?_
    rintro e w' ⟨rfl, rfl⟩
    exact ⟨_, _, rfl, hB, hH, rfl, by rw [show sortedE [] = [] from by simp [sortedE]]⟩
  injection hval with hA h2 h3
  subst hA h3
  have hbw : b < w.heap.size := (Array.getElem?_eq_some_iff.1 hg).1
  have hin := hH.inb _ (List.mem_singleton.2 rfl) b (by simp [It.S, evRow, Value.ownBlock])
  have hfl := flat_len DEvent.len l
  have hcl : l.length * 3 ≤ cur.size := by
    have := congrArg List.length hcur
    rw [List.length_take, hfl, Array.length_toList] at this
    omega
  have hget : ∀ j, j < l.length * 3 → cur[j]? = (l.flatMap DEvent.enc)[j]? := fun j hj => by
    rw [← hcur, List.getElem?_take, if_pos (by omega)]
    simp
  have hHold : Go.Sort.HoldsK DEvent.enc 3 w b 0 l.toArray := fun j hj => by
    rw [flatK_eq] at hj ⊢
    have hj' : j < l.length * 3 := by simpa [hfl] using hj
    have hjl : j < (l.flatMap DEvent.enc).length := by rw [hfl]; exact hj'
    refine ⟨?_, by simp [World.frozen?, hg]⟩
    rw [Nat.zero_add, show w.cell? ⟨b, j, none⟩ = cur[j]? from by simp [World.cell?, hg], hget j hj', List.getElem?_eq_getElem hjl, getElem!_pos _ j (by simpa using hjl)]
    simp
  have h := AnyQ.slices_SortFunc_total sortLay 3 Tryz.isAgg139 Tryz.sizeOf139 DEvent.enc DEvent.len (fun x v hv => by simp [DEvent.enc] at hv; rcases hv with rfl | rfl | rfl <;> rfl) ordE swoE 207 #[] b 0 c l.toArray w
    (enters_of Tryz.func207 (by kernel_rfl) rfl) (sort_cmp b l w) hHold hbw (by simp; omega) totE
  refine Calls.mono h ?_
  rintro e w' ⟨rfl, n, os, rfl⟩
  rw [show (l.toArray.toList.mergeSort fun x y => !(ltOf ordE) y x) = sortedE l from rfl]
  have hlen := sortedE_len l
  generalize sortedE l = s at hlen ⊢
  have hfs := flat_len DEvent.len s
  have hsh : (sortWorldK DEvent.enc 3 w b 0 n s.toArray os).heap = (w.heap.modify b (Go.Sort.onCells (Go.Sort.putCells id 0 (s.flatMap DEvent.enc).toArray))) ++ os := by
    unfold sortWorldK Go.Sort.putRowK
    rw [flatK_eq]
    rfl
  have hold : ∀ i, i < w.heap.size → i ≠ b → (sortWorldK DEvent.enc 3 w b 0 n s.toArray os).heap[i]? = w.heap[i]? := fun i hi hne => by
    rw [hsh, Array.getElem?_append_left (by simpa using hi), Array.getElem?_modify, if_neg (fun e => hne e.symm)]
  have hnew : (sortWorldK DEvent.enc 3 w b 0 n s.toArray os).heap[b]? = some (.cells (Go.Sort.putCells id 0 (s.flatMap DEvent.enc).toArray cur) 139 (0, 0)) := by
    rw [hsh, Array.getElem?_append_left (by simpa using hbw), Array.getElem?_modify, if_pos rfl, hg]
    rfl
  have hsize : w.heap.size ≤ (sortWorldK DEvent.enc 3 w b 0 n s.toArray os).heap.size := by rw [hsh]; simp
  have hbel : Bel wr.heap.size wr (sortWorldK DEvent.enc 3 w b 0 n s.toArray os) :=
    hB.trans ⟨⟨rfl, rfl, rfl, hsize, fun i hi => hold i (by have := hB.size; omega) (by omega)⟩⟩
  refine ⟨_, [evRow (some ⟨b, 0, none⟩) c s], rfl, hbel, ?_, rfl, rfl⟩
  refine hH.upd (A := evRow (some ⟨b, 0, none⟩) c l) .here hB.size hsize (fun i hi hS => hold i hi (fun e => hS (by rw [e]; simp [It.S, evRow, Value.ownBlock]))) ?_ (fun i hi => .inl hi)
  refine ⟨by rw [hfs], .inr ⟨b, c, _, rfl, Nat.zero_le _, hnew, by omega, hcm, ?_, ?_⟩⟩
  · simp only [Go.Sort.putCells, Array.size_mapIdx]
    exact hsz
  · apply List.ext_getElem?
    intro j
    rw [List.getElem?_take]
    by_cases hj : j < s.length * 3
    · rw [if_pos hj]
      have hjc : j < cur.size := by omega
      have hjs : j < (s.flatMap DEvent.enc).length := by omega
      simp only [Array.getElem?_toList, Go.Sort.putCells, Array.getElem?_mapIdx, Array.getElem?_eq_getElem hjc, Option.map_some, Nat.zero_le, true_and, Nat.zero_add, List.size_toArray, if_pos hjs, Nat.sub_zero]
      rw [List.getElem?_eq_getElem hjs, getElem!_pos _ j (by simpa using hjs)]
      simp
    · rw [if_neg hj, List.getElem?_eq_none (by omega)]
end Go.Proofs.YtbffjibfcgcoeaaGreatDoor

namespace Go.Proofs.YtbffjibfcgcoeaaGreatDoor
open Go Go.RowKit Go.Wk
attribute [local irreducible] W RL Does thenQ blockQ retQ Calls Pu Stp RD Qy Ay DoesIn
structure IG where
  k : Nat
  A : Option Addr
  c : Nat
  m : Nat
  xs : List Value
  acc : List DEvent
def NewEv (l : List DEvent) (v : Value) (O : List It) : Prop := ∃ A c, v = .tuple #[.slice A l.length c, .int .i64 0] ∧ O = [evRow A c l]
theorem u64_big : decide ((1000 : Int) < IntKind.u64.wrap (IntKind.u64.wrap 2550 - IntKind.u64.wrap 1850)) = false := by decide +kernel
theorem in_spec (A : Option Addr) (c : Nat) (l : List DRule) (w : World) (hG : Glob w) (hA : RdSl w A c DRule.enc 11 l) (hn : l.length ≤ 1000000) (hR : ∀ r ∈ l, -4611686018427387904 ≤ r.save ∧ r.save ≤ 4611686018427387904) :
    Does Tryz.prog 158 [.slice A l.length c, .int .i64 1850, .int .i64 2550] w (NewEv (sortedE (allC l (leastD l) 1850 701))) := by
  have hon := fun (i : Nat) r (hi : l[i]? = some r) y w' (hw : Bel w.heap.size w w') => evOn_spec A c l i y r w' (hG.up hw) (hA.up hw) hi hn hR
  generalize leastD l = least at *
  obtain ⟨res, hres⟩ : ∃ res, allC l least 1850 701 = res := ⟨_, rfl⟩
  rw [hres]
  refine Does_of_W Tryz.func158 rfl rfl rfl rfl ?_
  repeat (first | (apply RL_pu; rfl; (first | (apply Pu_add; rfl; rfl; (constructor <;> omega)) | (apply Pu_sub'; rfl; rfl; (constructor <;> omega)) | (apply Pu_subW; rfl; rfl) | (apply Pu_gtrB; rfl; rfl; exact u64_big) | (apply Pu_convI; rfl))) | (apply RL_st; rfl; (first | (apply Stp_alloc; intro bk) | (apply Stp_buildSliceC; rfl; rfl; rfl; rfl; (focus repeat (first | exact Nf.nil | apply Nf.cons)); intro bk))) | refine walk1 ?_)
  refine W_nil 139 3 ?_
  obtain ⟨N, hN⟩ : ∃ N : Int, N = 701 := ⟨_, rfl⟩
  rw [show (2550 : Int) - 1850 + 1 = N by omega]
  refine W_loopF [(0, .slice A l.length c), (1, .int .i64 1850), (27, .int .i64 N)] [] (fun g : IG => [(8, .slice g.A g.m g.c), (28, .int .i64 g.k)]) (fun g => [.row (.slice g.A g.m g.c) 139 3 g.m g.xs])
    (fun g => g.k ≤ 701 ∧ g.m = g.acc.length ∧ g.xs = g.acc.flatMap DEvent.enc ∧ g.m ≤ g.k * 1000000 ∧ g.acc = allC l least 1850 g.k) (fun g => 701 - g.k) ⟨0, none, 0, 0, [], []⟩ (by repeat (first | exact trivial | refine ⟨rfl, ?_⟩)) (by first | exact .refl _ | focus repeat (first | exact SubO.nil | (apply SubO.cons; focus repeat' constructor))) ⟨Nat.zero_le _, rfl, rfl, Nat.le_refl _, rfl⟩ ?_
  rintro ⟨k, A1, c1, m, xs, acc⟩ ⟨hk, hm, hx, hmk, hi⟩
  dsimp only at hk hm hx hmk hi ⊢
  repeat (first | (apply RL_st; rfl; (first | (apply Stp_alloc; intro bk) | (apply Stp_buildSliceC; rfl; rfl; rfl; rfl; (focus repeat (first | exact Nf.nil | apply Nf.cons)); intro bk))) | refine walk ?_)
  refine W_cond rfl (fun hc => ?_) (fun hc => ?_)
  · have hk2 : k < 701 := by have := of_decide_eq_true hc; omega
    obtain ⟨nxt, hnxt⟩ : ∃ nxt, allC l least 1850 (k + 1) = nxt := ⟨_, rfl⟩
    have hst : acc ++ yearC least (1850 + k) l 0 = nxt := by rw [← hnxt, allC, hi]
    repeat (first | (apply RL_st; rfl; (first | (apply Stp_alloc; intro bk) | (apply Stp_buildSliceC; rfl; rfl; rfl; rfl; (focus repeat (first | exact Nf.nil | apply Nf.cons)); intro bk))) | refine walk ?_)
    refine W_loopF [(0, .slice A l.length c), (1, .int .i64 1850), (27, .int .i64 N), (28, .int .i64 k), (9, .int .i64 k), (31, .slice A l.length c), (32, .int .i64 l.length)] [] (fun g : IG => [(8, .slice g.A g.m g.c), (33, .int .i64 g.k)]) (fun g => [.row (.slice g.A g.m g.c) 139 3 g.m g.xs])
      (fun g => g.k ≤ l.length ∧ g.m = g.acc.length ∧ g.xs = g.acc.flatMap DEvent.enc ∧ g.m ≤ k * 1000000 + g.k ∧ g.acc ++ yearC least (1850 + k) (l.drop g.k) g.k = nxt) (fun g => l.length - g.k) ⟨0, A1, c1, m, xs, acc⟩ (by repeat (first | exact trivial | refine ⟨rfl, ?_⟩)) (by first | exact .refl _ | focus repeat (first | exact SubO.nil | (apply SubO.cons; focus repeat' constructor))) ⟨Nat.zero_le _, hm, hx, Nat.le_trans hmk (Nat.le_add_right _ _), by dsimp only; rw [List.drop_zero]; exact hst⟩ ?_
    clear hm hx hmk hi hst hc
    rintro ⟨i, A1, c1, m, xs, acc⟩ ⟨hil, hm, hx, hmk, hi⟩
    dsimp only at hil hm hx hmk hi ⊢
    repeat (first | (apply RL_st; rfl; (first | (apply Stp_alloc; intro bk) | (apply Stp_buildSliceC; rfl; rfl; rfl; rfl; (focus repeat (first | exact Nf.nil | apply Nf.cons)); intro bk))) | refine walk ?_)
    refine W_cond rfl (fun hc => ?_) (fun hc => ?_)
    · simp only [decide_eq_true_eq, Int.ofNat_lt] at hc
      have ho := hon i _ (List.getElem?_eq_getElem hc) (1850 + (k : Int))
      rw [drop_cons hc, yearC] at hi
      generalize onR least l[i] i (1850 + (k : Int)) = o at *
      cases o with
      | none =>
        simp only [evV, DEvent.enc, dEv0, Option.isSome, Option.toList, List.nil_append] at ho hi
        repeat (first | (apply RL_pu; rfl; (first | (apply Pu_add; rfl; rfl; (constructor <;> omega)) | (apply Pu_sub'; rfl; rfl; (constructor <;> omega)))) | (apply RL_st0; (apply Stp_call (h := fun w' hw _ => ho w' hw); rfl; rintro v O' ⟨rfl, rfl⟩)) | (apply RL_st; rfl; (first | (apply Stp_call (h := fun w' hw _ => ho w' hw); rfl; rintro v O' ⟨rfl, rfl⟩) | (apply Stp_alloc; intro bk) | (apply Stp_buildSliceC; rfl; rfl; rfl; rfl; (focus repeat (first | exact Nf.nil | apply Nf.cons)); intro bk))) | refine walk1 ?_)
        exact ⟨⟨i + 1, A1, c1, m, xs, acc⟩, (by first | omega | (dsimp only; omega)), ⟨(by first | omega | (dsimp only; omega)), hm, hx, (by first | omega | (dsimp only; omega)), hi⟩, (by repeat (first | exact trivial | refine ⟨rfl, ?_⟩)), (by first | exact .refl _ | focus repeat (first | exact SubO.nil | (apply SubO.cons; focus repeat' constructor)))⟩
      | some e =>
        obtain ⟨ey, er, en⟩ := e
        simp only [evV, DEvent.enc, Option.isSome, Option.toList] at ho hi
        repeat (first | (apply RL_pu; rfl; (first | (apply Pu_add; rfl; rfl; (constructor <;> omega)) | (apply Pu_sub'; rfl; rfl; (constructor <;> omega)))) | (apply RL_st0; (first | (apply Stp_call (h := fun w' hw _ => ho w' hw); rfl; rintro v O' ⟨rfl, rfl⟩) | (apply Stp_append; rfl; rfl; (intro A' c'; (focus repeat' constructor)); (intro w' _ hO; exact blkRaw (hO.of (by (focus repeat' constructor)))); rfl; rfl; (simp only [maxLen]; omega); omega; intro A' c' hc1 hc2 hc3))) | (apply RL_st; rfl; (first | (apply Stp_call (h := fun w' hw _ => ho w' hw); rfl; rintro v O' ⟨rfl, rfl⟩) | (apply Stp_append; rfl; rfl; (intro A' c'; (focus repeat' constructor)); (intro w' _ hO; exact blkRaw (hO.of (by (focus repeat' constructor)))); rfl; rfl; (simp only [maxLen]; omega); omega; intro A' c' hc1 hc2 hc3) | (apply Stp_alloc; intro bk) | (apply Stp_buildSliceC; rfl; rfl; rfl; rfl; (focus repeat (first | exact Nf.nil | apply Nf.cons)); intro bk))) | refine walk1 ?_)
        exact ⟨⟨i + 1, A', c', m + 1, xs ++ [.int .i64 ey, .int .i64 er, .int .i64 en], acc ++ [⟨ey, er, en⟩]⟩, (by first | omega | (dsimp only; omega)), ⟨(by first | omega | (dsimp only; omega)), by simp [hm], by rw [hx]; simp [DEvent.enc], (by first | omega | (dsimp only; omega)), by rw [← hi]; simp⟩, (by repeat (first | exact trivial | refine ⟨rfl, ?_⟩)), (by first | exact .refl _ | focus repeat (first | exact SubO.nil | (apply SubO.cons; focus repeat' constructor)))⟩
    · simp only [decide_eq_false_iff_not, Int.ofNat_lt] at hc
      rw [List.drop_eq_nil_of_le (by omega), yearC, List.append_nil] at hi
      repeat (first | (apply RL_st; rfl; (first | (apply Stp_alloc; intro bk) | (apply Stp_buildSliceC; rfl; rfl; rfl; rfl; (focus repeat (first | exact Nf.nil | apply Nf.cons)); intro bk))) | refine walk ?_)
      exact ⟨⟨k + 1, A1, c1, m, xs, acc⟩, (by first | omega | (dsimp only; omega)), ⟨(by first | omega | (dsimp only; omega)), hm, hx, (by first | omega | (dsimp only; omega)), hi.trans hnxt.symm⟩, (by repeat (first | exact trivial | refine ⟨rfl, ?_⟩)), (by first | exact .refl _ | focus repeat (first | exact SubO.nil | (apply SubO.cons; focus repeat' constructor)))⟩
  · obtain rfl : k = 701 := by have := of_decide_eq_false hc; omega
    rw [hres] at hi
    subst hi hm hx
    repeat (first | (apply RL_st0; (apply Stp_callIn; rfl; exact sortEv_in A1 c1 acc w (by omega); exact .refl _; rintro v O' ⟨rfl, rfl⟩)) | (apply RL_st; rfl; (first | (apply Stp_callIn; rfl; exact sortEv_in A1 c1 acc w (by omega); exact .refl _; rintro v O' ⟨rfl, rfl⟩) | (apply Stp_alloc; intro bk) | (apply Stp_buildSliceC; rfl; rfl; rfl; rfl; (focus repeat (first | exact Nf.nil | apply Nf.cons)); intro bk))) | refine walk ?_)
    exact ret_2 _ _ [evRow A1 c1 (sortedE acc)] (.tmp rfl) (.tmp rfl) (by first | exact .refl _ | focus repeat (first | exact SubO.nil | (apply SubO.cons; focus repeat' constructor))) ⟨A1, c1, by rw [sortedE_len], rfl⟩

def apV : Option DEvent → Value
  | none => .tuple #[.agg (DEvent.enc dEv0).toArray, .int .i64 0]
  | some e => .tuple #[.agg (DEvent.enc e).toArray, .int .i64 13]
theorem closeA_drop {l : List DEvent} {k : Nat} (h : k + 1 < l.length) : closeA (l.drop k) = if (l[k + 1]'h).nominal - (l[k]'(by omega)).nominal < 259200 then some (l[k + 1]'h) else closeA (l.drop (k + 1)) := by
  rw [drop_cons (show k < l.length by omega), drop_cons h, closeA]
theorem closeA_end {l : List DEvent} {k : Nat} (h : l.length ≤ k + 1) : closeA (l.drop k) = none := by
  by_cases hk : k < l.length
  · rw [drop_cons hk, List.drop_eq_nil_of_le h]; rfl
  · rw [List.drop_eq_nil_of_le (by omega)]; rfl
theorem evRow_get {l : List DEvent} {k : Nat} (h : k < l.length) (j : Nat) (v : Value) (hj : (DEvent.enc l[k])[j]? = some v) : (l.flatMap DEvent.enc)[k * 3 + j]? = some v := flat_get DEvent.len l k _ j v (List.getElem?_eq_getElem h) hj
def NomOk (e : DEvent) : Prop := -200000000000000000 ≤ e.nominal ∧ e.nominal ≤ 200000000000000000
theorem yearC_ok (least y : Int) (hl : least ≤ 0) : ∀ (l : List DRule) (i : Nat), (yearC least y l i).length ≤ l.length ∧ ∀ e ∈ yearC least y l i, NomOk e
  | [], _ => ⟨Nat.le_refl _, fun _ h => by cases h⟩
  | r :: l, i => by
    obtain ⟨h1, h2⟩ := yearC_ok least y hl l (i + 1)
    have h3 := onR_bd least hl r i y
    simp only [yearC, List.length_append, List.length_cons, List.mem_append]
    generalize onR least r i y = o at *
    cases o with
    | none => exact ⟨by simp only [Option.toList, List.length_nil]; omega, fun e he => by rcases he with h | h; cases h; exact h2 e h⟩
    | some x => exact ⟨by simp only [Option.toList, List.length_cons, List.length_nil]; omega, fun e he => by
        rcases he with h | h
        · simp only [Option.toList, List.mem_singleton] at h; subst h; exact h3 _ rfl
        · exact h2 e h⟩
theorem allC_ok (l : List DRule) (least from_ : Int) (hl : least ≤ 0) : ∀ k, (allC l least from_ k).length ≤ k * l.length ∧ ∀ e ∈ allC l least from_ k, NomOk e
  | 0 => ⟨Nat.zero_le _, fun _ h => by cases h⟩
  | k + 1 => by
    obtain ⟨h1, h2⟩ := allC_ok l least from_ hl k
    obtain ⟨h3, h4⟩ := yearC_ok least (from_ + k) hl l 0
    simp only [allC, List.length_append, List.mem_append, Nat.succ_mul]
    exact ⟨by omega, fun e he => he.elim (h2 e) (h4 e)⟩
theorem allC_len (l : List DRule) (least from_ : Int) (hl : least ≤ 0) (hn : l.length ≤ 1000000) : (allC l least from_ 701).length ≤ 701000000 := by
  have := (allC_ok l least from_ hl 701).1
  omega
theorem apart_spec (A : Option Addr) (c : Nat) (l : List DRule) (w : World) (hG : Glob w) (hA : RdSl w A c DRule.enc 11 l) (hn : l.length ≤ 1000000) (hR : ∀ r ∈ l, -4611686018427387904 ≤ r.save ∧ r.save ≤ 4611686018427387904) :
    Does Tryz.prog 101 [.slice A l.length c] w (fun v O => v = apV (apartD l) ∧ O = []) := by
  have hin := fun w' (hw : Bel w.heap.size w w') => in_spec A c l w' (hG.up hw) (hA.up hw) hn hR
  have hle := (leastD_le l hR).2
  have hal := allC_len l (leastD l) 1850 hle hn
  have hok := (allC_ok l (leastD l) 1850 hle 701).2
  rw [← apartD_eq]
  rw [show ((allC l (leastD l) 1850 701).mergeSort fun x y => !ltE y x) = sortedE (allC l (leastD l) 1850 701) from rfl]
  have hsl := sortedE_len (allC l (leastD l) 1850 701)
  have hso : ∀ e ∈ sortedE (allC l (leastD l) 1850 701), NomOk e := fun e he => hok e (List.mem_mergeSort.1 he)
  generalize sortedE (allC l (leastD l) 1850 701) = s at *
  have hsl2 : s.length ≤ 701000000 := by omega
  clear hal hok hsl
  obtain ⟨res, hres⟩ : ∃ res, closeA s = res := ⟨_, rfl⟩
  rw [hres]
  have hmx : (if (s.length : Int) - 1 < 0 then 0 else (s.length : Int) - 1) = ((s.length - 1 : Nat) : Int) := by split <;> omega
  refine Does_of_W Tryz.func101 rfl rfl rfl rfl ?_
  repeat (first | (apply RL_pu; rfl; (first | (apply Pu_add; rfl; rfl; (constructor <;> omega)) | (apply Pu_sub'; rfl; rfl; (constructor <;> omega)) | (apply Pu_maxK; rfl; rfl; exact hmx))) | (apply RL_st0; (apply Stp_call (h := fun w' hw _ => hin w' hw); rfl; rintro v O' ⟨A1, c1, rfl, rfl⟩)) | (apply RL_st; rfl; (first | (apply Stp_call (h := fun w' hw _ => hin w' hw); rfl; rintro v O' ⟨A1, c1, rfl, rfl⟩) | (apply Stp_alloc; intro bk))) | (apply RD_Q; rfl; rfl; decide +kernel; rfl; rfl; (first | (apply Qy_y; rfl; (first | (apply Pu_add; rfl; rfl; (constructor <;> omega)) | (apply Pu_sub'; rfl; rfl; (constructor <;> omega)) | (apply Pu_maxK; rfl; rfl; exact hmx))) | exact QyA)) | refine walk1 ?_ | (refine RD_G0w ?_; intro F; (apply Stp_call (h := fun w' hw _ => hin w' hw); rfl; rintro v O' ⟨A1, c1, rfl, rfl⟩); refine ⟨_, EndsA, SubO.right _ _, ?_⟩) | (refine RD_Lw ?_; intro F; (first | (apply Stp_call (h := fun w' hw _ => hin w' hw); rfl; rintro v O' ⟨A1, c1, rfl, rfl⟩) | (apply Stp_alloc; intro bk) | (apply Stp_storeNf; rfl; rfl; (focus repeat' constructor); (focus repeat (first | exact Nf.nil | apply Nf.cons)); rfl; rfl; rfl; (focus repeat' constructor)) | (apply Stp_pu; first | (apply Pu_add; rfl; rfl; (constructor <;> omega)) | (apply Pu_sub'; rfl; rfl; (constructor <;> omega)) | (apply Pu_maxK; rfl; rfl; exact hmx) | exact PuA)); refine ⟨_, EndsA, (by repeat (first | exact QF.nil | (apply QF.mk; rfl; rfl; decide +kernel; (first | (apply Qy_y; rfl; (first | (apply Pu_add; rfl; rfl; (constructor <;> omega)) | (apply Pu_sub'; rfl; rfl; (constructor <;> omega)) | (apply Pu_maxK; rfl; rfl; exact hmx))) | exact QyA)))), ?_⟩) | (apply RD_W; rfl; intro bk))
  have hn1 : s.length - 1 ≤ 701000000 := by omega
  obtain ⟨b2, hb2⟩ : ∃ b2, bk = b2 := ⟨_, rfl⟩
  rw [hb2]
  clear hb2 bk
  refine W_loopF [(2, .pointer (some ⟨b2, 0, none⟩)), (4, .slice A1 s.length c1), (19, .int .i64 (s.length - 1 : Nat))] [.row (.slice A1 s.length c1) 139 3 s.length (s.flatMap DEvent.enc), .blk b2 [.int .i64 0, .int .i64 0, .int .i64 0] 139] (fun k : Nat => [(20, .int .i64 k)]) (fun _ => []) (fun k => k ≤ s.length - 1 ∧ closeA (s.drop k) = res) (fun k => s.length - 1 - k) 0 (by repeat (first | exact trivial | refine ⟨rfl, ?_⟩)) (by first | exact .refl _ | focus repeat (first | exact SubO.nil | (apply SubO.cons; focus repeat' constructor))) ⟨Nat.zero_le _, hres⟩ ?_
  rintro k ⟨hk, hi⟩
  repeat (first | (apply RL_st; rfl; (apply Stp_alloc; intro bk)) | refine walk ?_ | (refine RD_Lw ?_; intro F; (first | (apply Stp_alloc; intro bk) | (apply Stp_storeNf; rfl; rfl; (focus repeat' constructor); (focus repeat (first | exact Nf.nil | apply Nf.cons)); rfl; rfl; rfl; (focus repeat' constructor)) | (apply Stp_pu; exact PuA)); refine ⟨_, EndsA, QFA, ?_⟩) | (apply RD_W; rfl; intro bk))
  refine W_cond rfl (fun hc => ?_) (fun hc => ?_)
  · simp only [decide_eq_true_eq, Int.ofNat_lt] at hc
    have hk1 : k + 1 < s.length := by omega
    rw [closeA_drop hk1] at hi
    have hg1 := evRow_get hk1 2 _ rfl
    have hg2 := evRow_get (show k < s.length by omega) 2 _ rfl
    have hgn : ∀ j v, (DEvent.enc s[k + 1])[j]? = some v → (s.flatMap DEvent.enc)[(k + 1) * 3 + j]? = some v := fun j v hj => evRow_get hk1 j v hj
    have o1 := hso _ (List.getElem_mem hk1)
    have o2 := hso _ (List.getElem_mem (show k < s.length by omega))
    generalize s[k + 1] = e1 at *
    generalize s[k] = e2 at *
    obtain ⟨y1, r1, n1⟩ := e1
    obtain ⟨y2, r2, n2⟩ := e2
    simp only [DEvent.enc, NomOk] at hg1 hg2 hgn o1 o2 hi
    have hlen : (s.length : Int) ≤ 701000000 := by omega
    have hkk : (k : Int) + 1 < s.length := by omega
    by_cases h3 : n1 - n2 < 259200
    · rw [if_pos h3] at hi
      subst hi
      have hb : decide (n1 - n2 < 259200) = true := decide_eq_true h3
      repeat (first | (apply RL_pu; rfl; (first | (apply Pu_indexAddrH; rfl; rfl; omega; omega; (intro w' _ hO; exact (row_cell (hO.of (A := .row (.slice A1 s.length c1) 139 3 s.length (s.flatMap DEvent.enc)) (by (focus repeat' constructor))) hg1).1)) | (apply Pu_loadRF; rfl; (focus repeat' constructor); exact hg1) | (apply Pu_loadRF; rfl; (focus repeat' constructor); exact hg2) | (apply Pu_loadRN; rfl; (focus repeat' constructor); exact hgn; rfl) | (apply Pu_add; rfl; rfl; (constructor <;> omega)) | (apply Pu_sub'; rfl; rfl; (constructor <;> omega)) | (apply Pu_lssB; rfl; rfl; exact hb))) | (apply RL_st; rfl; (apply Stp_alloc; intro bk)) | (apply RD_Q; rfl; rfl; decide +kernel; rfl; rfl; (first | (apply Qy_y; rfl; (first | (apply Pu_indexAddrH; rfl; rfl; omega; omega; (intro w' _ hO; exact (row_cell (hO.of (A := .row (.slice A1 s.length c1) 139 3 s.length (s.flatMap DEvent.enc)) (by (focus repeat' constructor))) hg1).1)) | (apply Pu_loadRF; rfl; (focus repeat' constructor); exact hg1) | (apply Pu_loadRF; rfl; (focus repeat' constructor); exact hg2) | (apply Pu_loadRN; rfl; (focus repeat' constructor); exact hgn; rfl) | (apply Pu_add; rfl; rfl; (constructor <;> omega)) | (apply Pu_sub'; rfl; rfl; (constructor <;> omega)) | (apply Pu_lssB; rfl; rfl; exact hb))) | exact QyA)) | refine walk1 ?_ | (refine RD_Lw ?_; intro F; (first | (apply Stp_alloc; intro bk) | (apply Stp_storeNf; rfl; rfl; (focus repeat' constructor); (focus repeat (first | exact Nf.nil | apply Nf.cons)); rfl; rfl; rfl; (focus repeat' constructor)) | (apply Stp_pu; first | (apply Pu_indexAddrH; rfl; rfl; omega; omega; (intro w' _ hO; exact (row_cell (hO.of (A := .row (.slice A1 s.length c1) 139 3 s.length (s.flatMap DEvent.enc)) (by (focus repeat' constructor))) hg1).1)) | (apply Pu_loadRF; rfl; (focus repeat' constructor); exact hg1) | (apply Pu_loadRF; rfl; (focus repeat' constructor); exact hg2) | (apply Pu_loadRN; rfl; (focus repeat' constructor); exact hgn; rfl) | (apply Pu_add; rfl; rfl; (constructor <;> omega)) | (apply Pu_sub'; rfl; rfl; (constructor <;> omega)) | (apply Pu_lssB; rfl; rfl; exact hb) | exact PuA)); refine ⟨_, EndsA, (by repeat (first | exact QF.nil | (apply QF.mk; rfl; rfl; decide +kernel; (first | (apply Qy_y; rfl; (first | (apply Pu_indexAddrH; rfl; rfl; omega; omega; (intro w' _ hO; exact (row_cell (hO.of (A := .row (.slice A1 s.length c1) 139 3 s.length (s.flatMap DEvent.enc)) (by (focus repeat' constructor))) hg1).1)) | (apply Pu_loadRF; rfl; (focus repeat' constructor); exact hg1) | (apply Pu_loadRF; rfl; (focus repeat' constructor); exact hg2) | (apply Pu_loadRN; rfl; (focus repeat' constructor); exact hgn; rfl) | (apply Pu_add; rfl; rfl; (constructor <;> omega)) | (apply Pu_sub'; rfl; rfl; (constructor <;> omega)) | (apply Pu_lssB; rfl; rfl; exact hb))) | exact QyA)))), ?_⟩) | (apply RD_W; rfl; intro bk))
      exact ret_2 _ _ [] (.cellB rfl (by (focus repeat' constructor)) rfl rfl) (.tmp rfl) .nil ⟨rfl, rfl⟩
    · rw [if_neg h3] at hi
      have hb : decide (n1 - n2 < 259200) = false := decide_eq_false h3
      repeat (first | (apply RL_pu; rfl; (first | (apply Pu_indexAddrH; rfl; rfl; omega; omega; (intro w' _ hO; exact (row_cell (hO.of (A := .row (.slice A1 s.length c1) 139 3 s.length (s.flatMap DEvent.enc)) (by (focus repeat' constructor))) hg1).1)) | (apply Pu_loadRF; rfl; (focus repeat' constructor); exact hg1) | (apply Pu_loadRF; rfl; (focus repeat' constructor); exact hg2) | (apply Pu_loadRN; rfl; (focus repeat' constructor); exact hgn; rfl) | (apply Pu_add; rfl; rfl; (constructor <;> omega)) | (apply Pu_sub'; rfl; rfl; (constructor <;> omega)) | (apply Pu_lssB; rfl; rfl; exact hb))) | (apply RL_st; rfl; (apply Stp_alloc; intro bk)) | (apply RD_Q; rfl; rfl; decide +kernel; rfl; rfl; (first | (apply Qy_y; rfl; (first | (apply Pu_indexAddrH; rfl; rfl; omega; omega; (intro w' _ hO; exact (row_cell (hO.of (A := .row (.slice A1 s.length c1) 139 3 s.length (s.flatMap DEvent.enc)) (by (focus repeat' constructor))) hg1).1)) | (apply Pu_loadRF; rfl; (focus repeat' constructor); exact hg1) | (apply Pu_loadRF; rfl; (focus repeat' constructor); exact hg2) | (apply Pu_loadRN; rfl; (focus repeat' constructor); exact hgn; rfl) | (apply Pu_add; rfl; rfl; (constructor <;> omega)) | (apply Pu_sub'; rfl; rfl; (constructor <;> omega)) | (apply Pu_lssB; rfl; rfl; exact hb))) | exact QyA)) | refine walk1 ?_ | (refine RD_Lw ?_; intro F; (first | (apply Stp_alloc; intro bk) | (apply Stp_storeNf; rfl; rfl; (focus repeat' constructor); (focus repeat (first | exact Nf.nil | apply Nf.cons)); rfl; rfl; rfl; (focus repeat' constructor)) | (apply Stp_pu; first | (apply Pu_indexAddrH; rfl; rfl; omega; omega; (intro w' _ hO; exact (row_cell (hO.of (A := .row (.slice A1 s.length c1) 139 3 s.length (s.flatMap DEvent.enc)) (by (focus repeat' constructor))) hg1).1)) | (apply Pu_loadRF; rfl; (focus repeat' constructor); exact hg1) | (apply Pu_loadRF; rfl; (focus repeat' constructor); exact hg2) | (apply Pu_loadRN; rfl; (focus repeat' constructor); exact hgn; rfl) | (apply Pu_add; rfl; rfl; (constructor <;> omega)) | (apply Pu_sub'; rfl; rfl; (constructor <;> omega)) | (apply Pu_lssB; rfl; rfl; exact hb) | exact PuA)); refine ⟨_, EndsA, (by repeat (first | exact QF.nil | (apply QF.mk; rfl; rfl; decide +kernel; (first | (apply Qy_y; rfl; (first | (apply Pu_indexAddrH; rfl; rfl; omega; omega; (intro w' _ hO; exact (row_cell (hO.of (A := .row (.slice A1 s.length c1) 139 3 s.length (s.flatMap DEvent.enc)) (by (focus repeat' constructor))) hg1).1)) | (apply Pu_loadRF; rfl; (focus repeat' constructor); exact hg1) | (apply Pu_loadRF; rfl; (focus repeat' constructor); exact hg2) | (apply Pu_loadRN; rfl; (focus repeat' constructor); exact hgn; rfl) | (apply Pu_add; rfl; rfl; (constructor <;> omega)) | (apply Pu_sub'; rfl; rfl; (constructor <;> omega)) | (apply Pu_lssB; rfl; rfl; exact hb))) | exact QyA)))), ?_⟩) | (apply RD_W; rfl; intro bk))
      exact ⟨k + 1, (by first | omega | (dsimp only; omega)), ⟨(by first | omega | (dsimp only; omega)), hi⟩, (by repeat (first | exact trivial | refine ⟨rfl, ?_⟩)), (by first | exact .refl _ | focus repeat (first | exact SubO.nil | (apply SubO.cons; focus repeat' constructor)))⟩
  · simp only [decide_eq_false_iff_not, Int.ofNat_lt] at hc
    rw [closeA_end (show s.length ≤ k + 1 by omega)] at hi
    subst hi
    repeat (first | (apply RL_st; rfl; (apply Stp_alloc; intro bk)) | refine walk ?_ | (refine RD_Lw ?_; intro F; (first | (apply Stp_alloc; intro bk) | (apply Stp_storeNf; rfl; rfl; (focus repeat' constructor); (focus repeat (first | exact Nf.nil | apply Nf.cons)); rfl; rfl; rfl; (focus repeat' constructor)) | (apply Stp_pu; exact PuA)); refine ⟨_, EndsA, QFA, ?_⟩) | (apply RD_W; rfl; intro bk))
    exact ret_2 _ _ [] (.cellB rfl (by (focus repeat' constructor)) rfl rfl) (.tmp rfl) .nil ⟨rfl, rfl⟩
end Go.Proofs.YtbffjibfcgcoeaaGreatDoor

namespace Go.Proofs.YtbffjibfcgcoeaaGreatDoor
open Go Go.RowKit Go.Wk
attribute [local irreducible] W RL Does thenQ blockQ retQ Calls Pu Stp RD Qy Ay DoesIn
def manyE (z : DZone) : Bool := decide (60 < z.eras.length)
theorem findI_idx {α : Type} (p : α → Bool) : ∀ (l : List α) (k : Nat), findI p l k = match l.findIdx? p with | some i => ((k + i : Nat) : Int) | none => -1
  | [], _ => rfl
  | x :: l, k => by
    rw [findI, List.findIdx?_cons]
    by_cases h : p x = true
    · rw [if_pos h, if_pos h]; rfl
    · rw [if_neg h, if_neg h, findI_idx p l (k + 1)]
      cases l.findIdx? p with
      | none => rfl
      | some i => simp only [Option.map_some]; congr 1; omega
theorem sizes1_spec (n : ByteArray) (A : Option Addr) (m c : Nat) (w : World) : Does Tryz.prog 97 [.agg #[.string n, .slice A m c]] w (fun v O => v = .bool (decide (60 < m)) ∧ O = []) := by
  have hb : decide ((60 : Int) < (m : Int)) = decide (60 < m) := by rw [decide_eq_decide]; omega
  refine Does_of_W Tryz.func97 rfl rfl rfl rfl ?_
  repeat (first | (apply RL_pu; rfl; (apply Pu_gtrB; rfl; rfl; exact hb)) | (apply RL_st; rfl; (apply Stp_boxNf; rfl; (focus repeat (first | exact Nf.nil | apply Nf.cons)); intro bk)) | refine walk1 ?_)
  exact ret_1 _ [] (.tmp rfl) .nil ⟨rfl, rfl⟩
theorem indexZ_spec (Ar Az Al As : Option Addr) (cr cz cl cs : Nat) (a : DSource) (w : World) (hA : RdSource w Ar Az Al As cr cz cl cs a) (hn : a.zones.length ≤ 1000000) :
    Does Tryz.prog 89 [.slice Az a.zones.length cz, .func (.func 97) #[] #[]] w (fun v O => v = .int .i64 (findI manyE a.zones 0) ∧ O = []) := by
  obtain ⟨res, hres⟩ : ∃ res, findI manyE a.zones 0 = res := ⟨_, rfl⟩
  rw [hres]
  refine Does_of_W Tryz.func89 rfl rfl rfl rfl ?_
  repeat (first | refine walk ?_)
  refine W_loopF [(0, .slice Az a.zones.length cz), (1, .func (.func 97) #[] #[]), (7, .int .i64 a.zones.length)] [] (fun k : Nat => [(8, .int .i64 k)]) (fun _ => []) (fun k => k ≤ a.zones.length ∧ findI manyE (a.zones.drop k) k = res) (fun k => a.zones.length - k) 0 (by repeat (first | exact trivial | refine ⟨rfl, ?_⟩)) .nil ⟨Nat.zero_le _, hres⟩ ?_
  rintro k ⟨hk, hi⟩
  repeat (first | refine walk ?_)
  refine W_cond rfl (fun hc => ?_) (fun hc => ?_)
  · simp only [decide_eq_true_eq, Int.ofNat_lt] at hc
    obtain ⟨hna, cs1, ⟨Ae, ce, _, rfl⟩, hca⟩ := hA.z k _ (List.getElem?_eq_getElem hc)
    rw [drop_cons hc, findI] at hi
    generalize a.zones[k] = z at *
    have h1 : ∀ w', Does Tryz.prog 97 ([] ++ [.agg #[.string z.name, .slice Ae z.eras.length ce]] ++ []) w' (fun v O => v = .bool (decide (60 < z.eras.length)) ∧ O = []) := fun w' => sizes1_spec z.name Ae z.eras.length ce w'
    rw [show decide (60 < z.eras.length) = manyE z from rfl] at h1
    generalize manyE z = mb at *
    cases mb with
    | true =>
      rw [if_pos rfl] at hi
      subst hi
      repeat (first | (apply RL_pu; rfl; (first | (apply Pu_indexAddr; rfl; rfl; omega; omega; exact hna) | (apply Pu_loadON; rfl; exact hca; rfl))) | (apply RL_st0; (apply Stp_callV (h := fun w' hw _ => h1 w'); rfl; rfl; rintro v O' ⟨rfl, rfl⟩)) | (apply RL_st; rfl; (apply Stp_callV (h := fun w' hw _ => h1 w'); rfl; rfl; rintro v O' ⟨rfl, rfl⟩)) | refine walk1 ?_)
      exact ret_1 _ [] (.tmp rfl) .nil ⟨rfl, rfl⟩
    | false =>
      rw [if_neg (by decide)] at hi
      repeat (first | (apply RL_pu; rfl; (first | (apply Pu_indexAddr; rfl; rfl; omega; omega; exact hna) | (apply Pu_loadON; rfl; exact hca; rfl))) | (apply RL_st0; (apply Stp_callV (h := fun w' hw _ => h1 w'); rfl; rfl; rintro v O' ⟨rfl, rfl⟩)) | (apply RL_st; rfl; (apply Stp_callV (h := fun w' hw _ => h1 w'); rfl; rfl; rintro v O' ⟨rfl, rfl⟩)) | refine walk1 ?_)
      exact ⟨k + 1, (by first | omega | (dsimp only; omega)), ⟨(by first | omega | (dsimp only; omega)), hi⟩, (by repeat (first | exact trivial | refine ⟨rfl, ?_⟩)), .nil⟩
  · simp only [decide_eq_false_iff_not, Int.ofNat_lt] at hc
    rw [List.drop_eq_nil_of_le (by omega), findI] at hi
    subst hi
    repeat (first | refine walk ?_)
    exact ret_1 _ [] (.tmp rfl) .nil ⟨rfl, rfl⟩
theorem sizes_spec (Ar Az Al As : Option Addr) (cr cz cl cs : Nat) (a : DSource) (w : World) (hA : RdSource w Ar Az Al As cr cz cl cs a) (hn : a.zones.length ≤ 1000000) :
    Does Tryz.prog 47 [srcV Ar Az Al As cr cz cl cs a] w (fun v O => v = ptV (sizesD a) ∧ O = []) := by
  have hix := fun w' (hw : Bel w.heap.size w w') => indexZ_spec Ar Az Al As cr cz cl cs a w' (hA.up hw) hn
  rw [findI_idx] at hix
  unfold sizesD
  rw [show (fun z : DZone => decide (60 < z.eras.length)) = manyE from rfl]
  generalize a.zones.findIdx? manyE = fi at *
  refine Does_of_W Tryz.func47 rfl rfl rfl rfl ?_
  by_cases h1 : 2000 < a.rules.length
  · have b1 : decide ((2000 : Int) < a.rules.length) = true := decide_eq_true (by omega)
    rw [if_pos h1]
    repeat (first | (apply RL_pu; rfl; (apply Pu_gtrB; rfl; rfl; exact b1)) | (apply RL_st; rfl; (first | (apply Stp_boxNf; rfl; (focus repeat (first | exact Nf.nil | apply Nf.cons)); intro bk) | (apply Stp_alloc; intro bk))) | refine walk1 ?_)
    exact ret_2 _ _ [] (.cellB rfl (by (focus repeat' constructor)) rfl rfl) (.tmp rfl) .nil ⟨rfl, rfl⟩
  have b1 : decide ((2000 : Int) < a.rules.length) = false := decide_eq_false (by omega)
  rw [if_neg h1]
  by_cases h2 : 500 < a.zones.length
  · have b2 : decide ((500 : Int) < a.zones.length) = true := decide_eq_true (by omega)
    rw [if_pos h2]
    repeat (first | (apply RL_pu; rfl; (first | (apply Pu_gtrB; rfl; rfl; exact b1) | (apply Pu_gtrB; rfl; rfl; exact b2))) | (apply RL_st; rfl; (first | (apply Stp_boxNf; rfl; (focus repeat (first | exact Nf.nil | apply Nf.cons)); intro bk) | (apply Stp_alloc; intro bk))) | refine walk1 ?_)
    exact ret_2 _ _ [] (.cellB rfl (by (focus repeat' constructor)) rfl rfl) (.tmp rfl) .nil ⟨rfl, rfl⟩
  have b2 : decide ((500 : Int) < a.zones.length) = false := decide_eq_false (by omega)
  rw [if_neg h2]
  cases fi with
  | some i =>
    dsimp only at hix ⊢
    rw [Nat.zero_add] at hix
    have b3 : decide ((0 : Int) ≤ (i : Int)) = true := decide_eq_true (by omega)
    repeat (first | (apply RL_pu; rfl; (first | (apply Pu_gtrB; rfl; rfl; exact b1) | (apply Pu_gtrB; rfl; rfl; exact b2) | (apply Pu_geqB; rfl; rfl; exact b3))) | (apply RL_st0; (apply Stp_call (h := fun w' hw _ => hix w' hw); rfl; rintro v O' ⟨rfl, rfl⟩)) | (apply RL_st; rfl; (first | (apply Stp_call (h := fun w' hw _ => hix w' hw); rfl; rintro v O' ⟨rfl, rfl⟩) | (apply Stp_boxNf; rfl; (focus repeat (first | exact Nf.nil | apply Nf.cons)); intro bk) | (apply Stp_alloc; intro bk))) | refine walk1 ?_)
    exact ret_2 _ _ [] (.cellB rfl (by (focus repeat' constructor)) rfl rfl) (.tmp rfl) .nil ⟨rfl, rfl⟩
  | none =>
    dsimp only at hix ⊢
    by_cases h3 : 1000 < a.links.length
    · have b3 : decide ((1000 : Int) < a.links.length) = true := decide_eq_true (by omega)
      rw [if_pos h3]
      repeat (first | (apply RL_pu; rfl; (first | (apply Pu_gtrB; rfl; rfl; exact b1) | (apply Pu_gtrB; rfl; rfl; exact b2) | (apply Pu_gtrB; rfl; rfl; exact b3))) | (apply RL_st0; (apply Stp_call (h := fun w' hw _ => hix w' hw); rfl; rintro v O' ⟨rfl, rfl⟩)) | (apply RL_st; rfl; (first | (apply Stp_call (h := fun w' hw _ => hix w' hw); rfl; rintro v O' ⟨rfl, rfl⟩) | (apply Stp_boxNf; rfl; (focus repeat (first | exact Nf.nil | apply Nf.cons)); intro bk) | (apply Stp_alloc; intro bk))) | refine walk1 ?_)
      exact ret_2 _ _ [] (.cellB rfl (by (focus repeat' constructor)) rfl rfl) (.tmp rfl) .nil ⟨rfl, rfl⟩
    have b3 : decide ((1000 : Int) < a.links.length) = false := decide_eq_false (by omega)
    rw [if_neg h3]
    by_cases h4 : 2000 < a.shifts.length
    · have b4 : decide ((2000 : Int) < a.shifts.length) = true := decide_eq_true (by omega)
      rw [if_pos h4]
      repeat (first | (apply RL_pu; rfl; (first | (apply Pu_gtrB; rfl; rfl; exact b1) | (apply Pu_gtrB; rfl; rfl; exact b2) | (apply Pu_gtrB; rfl; rfl; exact b3) | (apply Pu_gtrB; rfl; rfl; exact b4))) | (apply RL_st0; (apply Stp_call (h := fun w' hw _ => hix w' hw); rfl; rintro v O' ⟨rfl, rfl⟩)) | (apply RL_st; rfl; (first | (apply Stp_call (h := fun w' hw _ => hix w' hw); rfl; rintro v O' ⟨rfl, rfl⟩) | (apply Stp_boxNf; rfl; (focus repeat (first | exact Nf.nil | apply Nf.cons)); intro bk) | (apply Stp_alloc; intro bk))) | refine walk1 ?_)
      exact ret_2 _ _ [] (.cellB rfl (by (focus repeat' constructor)) rfl rfl) (.tmp rfl) .nil ⟨rfl, rfl⟩
    have b4 : decide ((2000 : Int) < a.shifts.length) = false := decide_eq_false (by omega)
    rw [if_neg h4]
    repeat (first | (apply RL_pu; rfl; (first | (apply Pu_gtrB; rfl; rfl; exact b1) | (apply Pu_gtrB; rfl; rfl; exact b2) | (apply Pu_gtrB; rfl; rfl; exact b3) | (apply Pu_gtrB; rfl; rfl; exact b4))) | (apply RL_st0; (apply Stp_call (h := fun w' hw _ => hix w' hw); rfl; rintro v O' ⟨rfl, rfl⟩)) | (apply RL_st; rfl; (first | (apply Stp_call (h := fun w' hw _ => hix w' hw); rfl; rintro v O' ⟨rfl, rfl⟩) | (apply Stp_boxNf; rfl; (focus repeat (first | exact Nf.nil | apply Nf.cons)); intro bk) | (apply Stp_alloc; intro bk))) | refine walk1 ?_)
    exact ret_2 _ _ [] (.cellB rfl (by (focus repeat' constructor)) rfl rfl) (.tmp rfl) .nil ⟨rfl, rfl⟩
theorem lnames_spec (Ar Az Al As : Option Addr) (cr cz cl cs : Nat) (a : DSource) (w : World) (hA : RdSource w Ar Az Al As cr cz cl cs a) (hS : SrcOk a) :
    Does Tryz.prog 50 [srcV Ar Az Al As cr cz cl cs a] w (fun v O => v = ptV (linksD a) ∧ O = []) := by
  have h := fun w' (hw : Bel w.heap.size w w') => links_spec Ar Az Al As cr cz cl cs a w' (hA.up hw) hS
  refine Does_of_W Tryz.func50 rfl rfl rfl rfl ?_
  generalize linksD a = o at *
  cases o with
  | none =>
    simp only [ptV, plV, DPlace.enc] at h ⊢
    repeat (first | (apply RL_st0; (apply Stp_call (h := fun w' hw _ => h w' hw); rfl; rintro v O' ⟨rfl, rfl⟩)) | (apply RL_st; rfl; (first | (apply Stp_call (h := fun w' hw _ => h w' hw); rfl; rintro v O' ⟨rfl, rfl⟩) | (apply Stp_boxNf; rfl; (focus repeat (first | exact Nf.nil | apply Nf.cons)); intro bk) | (apply Stp_alloc; intro bk))) | refine walk ?_)
    exact ret_2 _ _ [] (.cellB rfl (by (focus repeat' constructor)) rfl rfl) (.tmp rfl) .nil ⟨rfl, rfl⟩
  | some pe =>
    obtain ⟨⟨p1, p2, p3⟩, e⟩ := pe
    simp only [ptV, plV, DPlace.enc] at h ⊢
    repeat (first | (apply RL_st0; (apply Stp_call (h := fun w' hw _ => h w' hw); rfl; rintro v O' ⟨rfl, rfl⟩)) | (apply RL_st; rfl; (first | (apply Stp_call (h := fun w' hw _ => h w' hw); rfl; rintro v O' ⟨rfl, rfl⟩) | (apply Stp_boxNf; rfl; (focus repeat (first | exact Nf.nil | apply Nf.cons)); intro bk) | (apply Stp_alloc; intro bk))) | refine walk ?_)
    exact ret_2 _ _ [] (.cellB rfl (by (focus repeat' constructor)) rfl rfl) (.tmp rfl) .nil ⟨rfl, rfl⟩
end Go.Proofs.YtbffjibfcgcoeaaGreatDoor
