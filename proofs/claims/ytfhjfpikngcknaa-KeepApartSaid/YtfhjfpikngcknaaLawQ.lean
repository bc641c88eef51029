/- The plain law of analemmalaw33.KeepParts; a slice made with room. -/
import Derived.Test.YtfhjfpikngcknaaLawO
namespace Go.Proofs.Ytfhjfpikngcknaa
open Go Go.RowKit Go.Wk
theorem filter_parts {α : Type} (p : α → Bool) : ∀ l : List α, (l.filter p).length + (l.filter fun x => !p x).length = l.length
  | [] => rfl
  | x :: l => by
    have := filter_parts p l
    cases h : p x <;> simp [h] <;> omega
/-- What is chosen stands in the list of the chosen behind those chosen before it. -/
theorem filt_get {α : Type} (p : α → Bool) : ∀ (l : List α) (j : Nat) (x : α), l[j]? = some x → p x = true → (l.filter p)[((l.take j).filter p).length]? = some x
  | [], j, x, h, _ => by simp at h
  | y :: l, 0, x, h, hp => by
    simp only [List.getElem?_cons_zero, Option.some.injEq] at h
    subst h
    simp [hp]
  | y :: l, j + 1, x, h, hp => by
    have ih := filt_get p l j x (by simpa using h) hp
    cases hy : p y <;> simp [hy, ih]
theorem parts_len (s : DSource) (l : List ByteArray) : (zonesD s l).zones.length + (withoutD s l).zones.length = s.zones.length := filter_parts _ _
theorem mem_pickB (f : Nat → Bool) (x : ByteArray) : ∀ (l : List ByteArray) (i : Nat), x ∈ pickB f i l → x ∈ l
  | [], _, h => by simp [pickB] at h
  | y :: l, i, h => by
    rw [pickB, List.mem_append] at h
    rcases h with h | h
    · split at h
      · rw [List.mem_singleton.1 h]; exact List.mem_cons_self
      · simp at h
    · exact List.mem_cons_of_mem _ (mem_pickB f x l (i + 1) h)
theorem some_mem (d : DDr) (bits : Int) : ∀ x ∈ someD (made25 d) bits, x ∈ nNone :: zoneN25 := by
  intro x hx
  rw [someD, pickZ_names, made25_names] at hx
  rcases List.mem_cons.1 hx with rfl | hx
  · exact List.mem_cons_self
  · exact List.mem_cons_of_mem _ (List.mem_of_mem_take (mem_pickB _ x _ _ hx))
theorem link_mem (d : DDr) : ∀ x ∈ (made25 d).links, x.name ∈ linkN25 := fun x hx => by
  have : x.name ∈ (made25 d).links.map (·.name) := List.mem_map.2 ⟨x, hx, rfl⟩
  rw [made25_links] at this
  exact List.mem_of_mem_take this
theorem zone_mem (d : DDr) : ∀ x ∈ (made25 d).zones, x.name ∈ zoneN25 := fun x hx => by
  have : x.name ∈ (made25 d).zones.map (·.name) := List.mem_map.2 ⟨x, hx, rfl⟩
  rw [made25_names] at this
  exact List.mem_of_mem_take this
theorem apartN : ∀ x ∈ linkN25, ∀ y ∈ nNone :: zoneN25, x ≠ y := by decide +kernel
theorem keeps_links (d : DDr) (bits : Int) : (withoutD (made25 d) (someD (made25 d) bits)).links = (made25 d).links := by
  show (made25 d).links.filter _ = _
  rw [List.filter_eq_self]
  intro x hx
  cases h : memB x.name (someD (made25 d) bits) with
  | false => rfl
  | true => exact absurd rfl (apartN _ (link_mem d x hx) _ (some_mem d bits _ ((memB_mem _ _).1 h)))
theorem no_links (s : DSource) : (withoutD s (s.links.map (·.name))).links = [] := by
  show s.links.filter _ = _
  rw [List.filter_eq_nil_iff]
  intro x hx
  rw [(memB_mem _ _).2 (List.mem_map.2 ⟨x, hx, rfl⟩)]
  simp
theorem all_zones (d : DDr) : (withoutD (made25 d) ((made25 d).links.map (·.name))).zones = (made25 d).zones := by
  show (made25 d).zones.filter _ = _
  rw [List.filter_eq_self]
  intro x hx
  cases h : memB x.name ((made25 d).links.map (·.name)) with
  | false => rfl
  | true =>
    obtain ⟨y, hy, e⟩ := List.mem_map.1 ((memB_mem _ _).1 h)
    exact absurd e (apartN _ (link_mem d y hy) _ (List.mem_cons_of_mem _ (zone_mem d x hx)))
theorem withoutD_none (a : DSource) : withoutD a [] = a := by
  simp [withoutD, memB, List.filter_eq_self.2]
theorem ze_at {Zs : List ZE} {zs : List DZone} (h : Zs.map ZE.z = zs) {k : Nat} {z : DZone} (hz : zs[k]? = some z) : ∃ q, Zs[k]? = some q ∧ q.z = z := by
  rw [← h, List.getElem?_map] at hz
  cases hq : Zs[k]? with
  | none => rw [hq] at hz; cases hz
  | some q =>
    rw [hq] at hz
    injection hz with hz
    exact ⟨q, rfl, hz⟩
end Go.Proofs.Ytfhjfpikngcknaa
