/- The law BillOnce, in plain words. -/
import Derived.Test.YtlnnbkpcnhlfcaaDoorJCapRMath
import Derived.Test.YtlnnbkpcnhlfcaaDoorFirst
set_option linter.unusedSimpArgs false
namespace Go.Proofs.YtlnnbkpcnhlfcaaDoor
open Go.RowKit Go.Lib

def ownCnt (ac : List Av) (cs : List CV) : Nat := (cs.filter (hasO ac)).length
def inNs (ns : List ByteArray) (s : ByteArray) : Bool := ns.any fun n => eqS n s
def cntN (ac : List Av) (cs : List CV) (ns : List ByteArray) : Nat := (cs.filter fun x => hasO ac x && inNs ns (ownO ac x)).length
theorem inNs_iff {ns : List ByteArray} {s : ByteArray} : inNs ns s = true ↔ s ∈ ns := by
  unfold inNs
  rw [List.any_eq_true]
  constructor
  · rintro ⟨n, hn, he⟩; rw [← (eqS_iff _ _).1 he]; exact hn
  · intro h; exact ⟨s, h, (eqS_iff _ _).2 rfl⟩
theorem isO_iff {ac : List Av} {nm : ByteArray} {x : CV} : isO ac nm x = true ↔ hasO ac x = true ∧ ownO ac x = nm := by
  unfold isO; rw [Bool.and_eq_true, eqS_iff]
theorem filter_or {α : Type} {p q r : α → Bool} (h : ∀ x, r x = (p x || q x)) (hd : ∀ x, p x = true → q x = false) : ∀ l : List α, (l.filter r).length = (l.filter p).length + (l.filter q).length
  | [] => rfl
  | x :: l => by
    have ih := filter_or h hd l
    rw [List.filter_cons, List.filter_cons, List.filter_cons, h x]
    cases hp : p x
    · cases hq : q x <;> simp <;> omega
    · rw [hd x hp]; simp; omega
theorem cntN_seen (ac : List Av) (cs : List CV) {ns : List ByteArray} {nm : ByteArray} (h : inNs ns nm = true) : cntN ac cs (ns ++ [nm]) = cntN ac cs ns := by
  unfold cntN
  congr 2
  funext x
  congr 1
  rw [Bool.eq_iff_iff, inNs_iff, inNs_iff, List.mem_append, List.mem_singleton]
  exact ⟨fun q => q.elim id fun e => e ▸ inNs_iff.1 h, Or.inl⟩
theorem cntN_new (ac : List Av) (cs : List CV) {ns : List ByteArray} {nm : ByteArray} (h : inNs ns nm = false) : cntN ac cs (ns ++ [nm]) = cntN ac cs ns + (ofL ac nm cs).length := by
  unfold cntN ofL
  refine filter_or (fun x => ?_) (fun x hx => ?_) cs
  · rw [Bool.eq_iff_iff, Bool.or_eq_true, Bool.and_eq_true, Bool.and_eq_true, inNs_iff, inNs_iff, isO_iff, List.mem_append, List.mem_singleton]
    constructor
    · rintro ⟨a, b | b⟩
      · exact Or.inl ⟨a, b⟩
      · exact Or.inr ⟨a, b⟩
    · rintro (⟨a, b⟩ | ⟨a, b⟩)
      · exact ⟨a, Or.inl b⟩
      · exact ⟨a, Or.inr b⟩
  · rw [Bool.and_eq_true] at hx
    cases q : isO ac nm x
    · rfl
    · rw [isO_iff] at q
      rw [q.2, h] at hx
      cases hx.2
theorem owner_in {ac : List Av} {x : CV} (h : hasO ac x = true) : inNs (ac.map Av.name) (ownO ac x) = true := by
  rw [inNs_iff]
  unfold hasO ownerB at h
  unfold ownO ownerN
  rw [List.any_eq_true] at h
  obtain ⟨a, ha, hp⟩ := h
  cases hf : ac.find? (ownA x.veh x.tm) with
  | none => rw [List.find?_eq_none] at hf; exact absurd hp (hf a ha)
  | some b => exact List.mem_map.2 ⟨b, List.mem_of_find?_eq_some hf, rfl⟩
theorem cntN_all (ac : List Av) (cs : List CV) : cntN ac cs (ac.map Av.name) = ownCnt ac cs := by
  unfold cntN ownCnt
  congr 2
  funext x
  cases q : hasO ac x
  · rfl
  · rw [owner_in q]; rfl
theorem cntN_le (ac : List Av) (cs : List CV) (ns : List ByteArray) : cntN ac cs ns ≤ cs.length := List.length_filter_le _ _
theorem ownCnt_le (ac : List Av) (cs : List CV) : ownCnt ac cs ≤ cs.length := List.length_filter_le _ _
theorem ownCnt_tk (ac : List Av) {cs : List CV} {k : Nat} {x : CV} (hx : cs[k]? = some x) : ownCnt ac (cs.take (k + 1)) = ownCnt ac (cs.take k) + if hasO ac x = true then 1 else 0 := by
  unfold ownCnt
  rw [take_snoc hx, List.filter_append, List.length_append]
  congr 1
  rw [List.filter_cons]
  split <;> simp
theorem inNs_tk {ns : List ByteArray} {k : Nat} {s nm : ByteArray} (h : ns[k]? = some s) : inNs (ns.take (k + 1)) nm = (inNs (ns.take k) nm || eqS s nm) := by
  unfold inNs
  rw [take_snoc h, List.any_append]
  simp
end Go.Proofs.YtlnnbkpcnhlfcaaDoor
