/- The plain law of analemmalaw33.KeepOptions: names of a draft's zones, those on a list; a finite table. -/
import Derived.Test.YtfhjfpikngcknaaSome33
import Derived.Test.YtfhjfpikngcknaaKeepL
namespace Go.Proofs.Ytfhjfpikngcknaa
open Go Go.RowKit Go.Wk

theorem zones25_names (L : List Int) (made : Nat) : ∀ i, i ≤ 3 → (zones25 L made i).1.map (·.name) = zoneN25.take i
  | 0, _ => by simp [zones25]
  | i + 1, h => by
    have hi : i < zoneN25.length := by simp only [zoneN25, List.length_cons, List.length_nil]; omega
    rw [zones25, List.map_append, zones25_names L made i (by omega), ← List.take_append_getElem hi]
    simp [zone25, List.getD_eq_getElem?_getD, List.getElem?_eq_getElem hi]
theorem nz_le (d : DDr) : d.nz ≤ 3 := by unfold DDr.nz; omega
theorem nl_le (d : DDr) : d.nl ≤ 3 := by unfold DDr.nl; omega
theorem made25_names (d : DDr) : (made25 d).zones.map (·.name) = zoneN25.take d.nz := zones25_names d.L d.made d.nz (nz_le d)
theorem made25_nz (d : DDr) : (made25 d).zones.length = d.nz := (zones25_rng d.L d.made d.nz).1
theorem links25_names (L : List Int) (zs : List DZone) (n : Int) : ∀ i, i ≤ 3 → (links25 L zs n i).1.map (·.name) = linkN25.take i
  | 0, _ => by simp [links25]
  | i + 1, h => by
    have hi : i < linkN25.length := by simp only [linkN25, List.length_cons, List.length_nil]; omega
    rw [links25, List.map_append, links25_names L zs n i (by omega), ← List.take_append_getElem hi]
    simp [link25, List.getD_eq_getElem?_getD, List.getElem?_eq_getElem hi]
theorem made25_links (d : DDr) : (made25 d).links.map (·.name) = linkN25.take (if d.nz = 0 then 0 else d.nl) := by
  unfold made25
  dsimp only
  split
  · rfl
  · exact links25_names _ _ _ _ (nl_le d)
theorem made25_eras (d : DDr) : ∀ z ∈ (made25 d).zones, z.eras.length ≤ 4 := by
  have : ∀ i, ∀ z ∈ (zones25 d.L d.made i).1, z.eras.length ≤ 4 := by
    intro i
    induction i with
    | zero => intro z hz; simp [zones25] at hz
    | succ i ih =>
      intro z hz
      rw [zones25] at hz
      rcases List.mem_append.1 hz with hz | hz
      · exact ih z hz
      · rw [List.mem_singleton.1 hz, (zone25_rng _ _ _ _).2.2]
        exact (cnt25_rng _ _).2
  exact this d.nz
theorem made25_fits (d : DDr) : Fits (made25 d) := by
  have h1 := rules25_len d.sets d.made
  have h2 : d.made ≤ 2 := Nat.min_le_right _ _
  have h3 := made25_nz d
  have h4 := nz_le d
  have h5 : (made25 d).links.length ≤ 3 := by
    have := congrArg List.length (made25_links d)
    rw [List.length_map, List.length_take] at this
    have h6 := nl_le d
    split at this <;> omega
  refine ⟨?_, by omega, by omega, Nat.zero_le _, fun z hz => by have := made25_eras d z hz; omega⟩
  show (rules25 d.sets d.made).length ≤ 1000000
  omega

def candN (NS : List ByteArray) (o : DOpt) : List ByteArray := NS.filter fun x => o.all || memB x o.keep
def namesN (NS : List ByteArray) (o : DOpt) : List ByteArray := if o.bz then cpt (sortB (candN NS o)) (sortB (candN NS o)).length else []
theorem candB_names (s : DSource) (o : DOpt) : candB s o = candN (s.zones.map (·.name)) o := by
  unfold candB candN
  rw [List.filter_map]
  rfl
theorem namesP_names (s : DSource) (o : DOpt) : namesP s o = namesN (s.zones.map (·.name)) o := by
  unfold namesP namesN
  rw [candB_names]
def pickB (f : Nat → Bool) : Nat → List ByteArray → List ByteArray
  | _, [] => []
  | i, x :: l => (if f i then [x] else []) ++ pickB f (i + 1) l
theorem pickZ_names (bits : Int) : ∀ (zs : List DZone) (i : Nat), pickZ bits i zs = pickB (bitOn bits) i (zs.map (·.name))
  | [], _ => rfl
  | z :: zs, i => by rw [pickZ, List.map_cons, pickB, pickZ_names bits zs (i + 1)]
def pick3 (b0 b1 b2 : Bool) (NS : List ByteArray) : List ByteArray := pickB (fun i => if i = 0 then b0 else if i = 1 then b1 else b2) 0 NS
theorem pick3_eq (f : Nat → Bool) (n : Nat) (h : n ≤ 3) : pickB f 0 (zoneN25.take n) = pick3 (f 0) (f 1) (f 2) (zoneN25.take n) := by
  obtain rfl | rfl | rfl | rfl : n = 0 ∨ n = 1 ∨ n = 2 ∨ n = 3 := by omega
  all_goals rfl
def repN (c : Nat) (l : List ByteArray) : List ByteArray := (List.replicate c l).flatten
def tabO (n : Nat) (b0 b1 b2 : Bool) (c : Nat) : Bool :=
  let NS := zoneN25.take n
  let sD := nNone :: pick3 b0 b1 b2 NS
  let l := repN c sD
  let all := namesN NS ⟨true, true, l⟩
  let few := namesN NS ⟨true, false, l⟩
  all.length == n && few.length + 1 == sD.length && sortedB all && sortedB few && few.all (fun x => memB x all && memB x l) && (namesN NS ⟨true, false, []⟩).length == 0
theorem tabO_true : ∀ n : Fin 4, ∀ b0 b1 b2 : Bool, ∀ c : Fin 4, 0 < c.val → tabO n.val b0 b1 b2 c.val = true := by decide +kernel

theorem lawO (d : DDr) (bits : Int) (c : Nat) (h1 : 1 ≤ c) (h2 : c ≤ 3) :
    (namesP (made25 d) ⟨true, true, repN c (someD (made25 d) bits)⟩).length = (made25 d).zones.length ∧ (namesP (made25 d) ⟨true, false, repN c (someD (made25 d) bits)⟩).length + 1 = (someD (made25 d) bits).length ∧
    sortedB (namesP (made25 d) ⟨true, true, repN c (someD (made25 d) bits)⟩) = true ∧ sortedB (namesP (made25 d) ⟨true, false, repN c (someD (made25 d) bits)⟩) = true ∧
    (∀ x ∈ namesP (made25 d) ⟨true, false, repN c (someD (made25 d) bits)⟩, memB x (namesP (made25 d) ⟨true, true, repN c (someD (made25 d) bits)⟩) = true ∧ memB x (repN c (someD (made25 d) bits)) = true) ∧
    namesP (made25 d) ⟨true, false, []⟩ = [] := by
  have hn := nz_le d
  have ht := tabO_true ⟨d.nz, by omega⟩ (bitOn bits 0) (bitOn bits 1) (bitOn bits 2) ⟨c, by omega⟩ (show 0 < c by omega)
  have hs : someD (made25 d) bits = nNone :: pick3 (bitOn bits 0) (bitOn bits 1) (bitOn bits 2) (zoneN25.take d.nz) := by
    rw [someD, pickZ_names, made25_names, pick3_eq _ _ hn]
  rw [made25_nz]
  simp only [namesP_names, made25_names, hs]
  simp only [tabO, Bool.and_eq_true, beq_iff_eq, List.all_eq_true] at ht
  obtain ⟨⟨⟨⟨⟨t1, t2⟩, t3⟩, t4⟩, t5⟩, t6⟩ := ht
  exact ⟨t1, t2, t3, t4, t5, List.eq_nil_of_length_eq_zero t6⟩
end Go.Proofs.Ytfhjfpikngcknaa
