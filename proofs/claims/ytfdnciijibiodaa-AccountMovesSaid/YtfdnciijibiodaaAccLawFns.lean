/- What chapter 33's laws ask first: large, great. -/
import Derived.Test.YtfdnciijibiodaaAccEnc
import Derived.IntWalk
namespace Go.Proofs.Ytfdnciijibiodaa
open Go.RowKit Go.Lib

def LgOk (o : Ow) : Prop := o.tag.size ≤ 100 ∧ o.pl.size ≤ 100
def GOk (l : List Ac) : Prop := l.length ≤ 30 ∧ ∀ a ∈ l, a.v.os.length ≤ 80 ∧ ∀ o ∈ a.v.os, LgOk o
theorem LgOk.sm {o : Ow} (h : LgOk o) : smO o := ⟨by have := h.1; omega, by have := h.2; omega⟩
theorem GOk.sm {l : List Ac} (h : GOk l) : smL l := ⟨by have := h.1; omega, fun a ha => ⟨by have := (h.2 a ha).1; omega, fun o ho => ((h.2 a ha).2 o ho).sm⟩⟩
/-- what is handed back is not too long -/
theorem cutL_mem2 {v : ByteArray} {t : Int} {os : List Ow} {y : Ow} (h : y ∈ cutL v t os) : ∃ x ∈ os, y.tag = x.tag ∧ y.pl = x.pl := by
  induction os with
  | nil => simp [cutL] at h
  | cons o os ih =>
    unfold cutL at h
    split at h
    · rcases List.mem_append.1 h with h | h
      · unfold cutOne at h
        split at h
        · simp at h
        · simp at h; subst h; exact ⟨o, by simp, rfl, rfl⟩
      · exact ⟨y, by simp [h], rfl, rfl⟩
    · rcases List.mem_cons.1 h with rfl | h
      · exact ⟨y, by simp, rfl, rfl⟩
      · obtain ⟨x, hx, e⟩ := ih h
        exact ⟨x, by simp [hx], e⟩
theorem cutL_len (v : ByteArray) (t : Int) : ∀ os : List Ow, (cutL v t os).length ≤ os.length
  | [] => Nat.le_refl _
  | o :: os => by
    unfold cutL
    split
    · unfold cutOne; split <;> simp
    · simp [cutL_len v t os]
theorem modF_mem2 {α : Type} {p : α → Bool} {f : α → α} : ∀ {l : List α} {c : α}, c ∈ modF p f l → c ∈ l ∨ ∃ a ∈ l, c = f a
  | [], c, h => by simp [modF] at h
  | a :: l, c, h => by
    unfold modF at h
    split at h
    · rcases List.mem_cons.1 h with rfl | h
      · exact Or.inr ⟨a, by simp, rfl⟩
      · exact Or.inl (by simp [h])
    · rcases List.mem_cons.1 h with rfl | h
      · exact Or.inl (by simp)
      · rcases modF_mem2 h with h | ⟨b, hb, h2⟩
        · exact Or.inl (by simp [h])
        · exact Or.inr ⟨b, by simp [hb], h2⟩
theorem modF_len2 {α : Type} {p : α → Bool} {f : α → α} : ∀ (l : List α), (modF p f l).length = l.length
  | [] => rfl
  | a :: l => by unfold modF; split <;> simp [modF_len2 l]
theorem smL_vals2 {l : List Ac} (h : (vals l).length ≤ 1000) (h2 : ∀ v ∈ vals l, v.os.length ≤ 1000 ∧ ∀ o ∈ v.os, smO o) : smL l := by
  refine ⟨by unfold vals at h; rwa [List.length_map] at h, fun a ha => ?_⟩
  exact h2 a.v (List.mem_map.2 ⟨a, ha, rfl⟩)
theorem smL_unlink {l : List Ac} (h : smL l) (s v : ByteArray) (t : Int) : (unlinkL (vals l) s v t).length ≤ 1000 ∧ ∀ u ∈ unlinkL (vals l) s v t, u.os.length ≤ 1000 ∧ ∀ o ∈ u.os, smO o := by
  have base : ∀ u ∈ vals l, u.os.length ≤ 1000 ∧ ∀ o ∈ u.os, smO o := fun u hu => by
    obtain ⟨a, ha, rfl⟩ := List.mem_map.1 hu
    exact h.2 a ha
  have hlen : (vals l).length ≤ 1000 := by unfold vals; rw [List.length_map]; exact h.1
  unfold unlinkL
  split
  · refine ⟨by rw [modF_len2]; exact hlen, fun u hu => ?_⟩
    rcases modF_mem2 hu with hu | ⟨a, ha, rfl⟩
    · exact base u hu
    · refine ⟨Nat.le_trans (cutL_len v t a.os) (base a ha).1, fun o ho => ?_⟩
      obtain ⟨x, hx, e1, e2⟩ := cutL_mem2 ho
      have := (base a ha).2 x hx
      exact ⟨by rw [e1]; exact this.1, by rw [e2]; exact this.2⟩
  · exact ⟨hlen, base⟩
theorem unlink_small {l l3 : List Ac} {s v : ByteArray} {t : Int} (h : smL l) (hv : vals l3 = unlinkL (vals l) s v t) : smL l3 :=
  smL_vals2 (by rw [hv]; exact (smL_unlink h s v t).1) (by rw [hv]; exact (smL_unlink h s v t).2)
theorem find_small {l : List Ac} {s : ByteArray} (h : smL l) : (((vals l).find? (named s)).getD zeroA).os.length ≤ 1000 ∧ ∀ o ∈ (((vals l).find? (named s)).getD zeroA).os, smO o := by
  cases hf : (vals l).find? (named s) with
  | none => exact ⟨by simp [zeroA], by simp [zeroA]⟩
  | some a =>
    obtain ⟨b, hb, e⟩ := List.mem_map.1 (List.mem_of_find?_eq_some hf)
    have := h.2 b hb
    unfold smA at this
    rw [e] at this
    exact this
def AskR (p : Prop) (e : Ending) : Prop := ∃ b, e = .returned (.bool b) ∧ (b = false → p)

set_option maxRecDepth 100000 in
set_option maxHeartbeats 4000000 in
theorem large_any (o : Ow) (w : World) : Calls Try.prog 14 #[OwV o] w fun e w' => AskR (LgOk o) e ∧ Below w.heap.size w w' := by
  obtain ⟨tg, pl, f, t⟩ := o
  simp only [OwV]
  obtain ⟨Y, hY⟩ : ∃ Y, w.alloc (.cells #[.string tg, .string pl, .int .i64 f, .int .i64 t] 43) = Y := ⟨_, rfl⟩
  have bW : Below w.heap.size w Y := by rw [← hY]; exact (Below.refl _ w).al _
  have BO : Blk Y w.heap.size #[.string tg, .string pl, .int .i64 f, .int .i64 t] 43 := by rw [← hY]; exact Blk.new w _ _
  have o0 := BO.cell 0 (v := .string tg) rfl
  have o1 := BO.cell 1 (v := .string pl) rfl
  by_cases h1 : 100 < (tg.size : Int)
  · go_enter Try.func14, Try.ntmps14
    go_wp2
    go_ret
    exact ⟨⟨true, rfl, fun h => by cases h⟩, bW⟩
  · by_cases h2 : 100 < (pl.size : Int)
    · go_enter Try.func14, Try.ntmps14
      go_wp2
      go_ret
      exact ⟨⟨true, rfl, fun h => by cases h⟩, bW⟩
    · have R := Lib.hid (show LgOk ⟨tg, pl, f, t⟩ from ⟨by show tg.size ≤ 100; omega, by show pl.size ≤ 100; omega⟩)
      go_enter Try.func14, Try.ntmps14
      go_wp2
      go_ret
      exact ⟨⟨false, rfl, fun _ => R.out⟩, bW⟩

set_option maxRecDepth 100000 in
set_option maxHeartbeats 8000000 in
theorem great_any {A : Option Addr} (c : Nat) {l : List Ac} {w : World} (h : AL w A c l) : Calls Try.prog 7 #[.slice A l.length c] w fun e w' => AskR (GOk l) e ∧ Below w.heap.size w w' := by
  have H := Lib.hid h
  have hc1 := h.2.2.1
  have hc2 := h.2.2.2
  have CL := Lib.hid (fun (o : Ow) (X : World) => large_any o X)
  clear h
  by_cases hbig : 30 < (l.length : Int)
  · go_enter Try.func7, Try.ntmps7
    go_wp2_with fail
    go_ret
    exact ⟨⟨true, rfl, fun h => by cases h⟩, Below.refl _ _⟩
  · go_enter Try.func7, Try.ntmps7
    go_wp2_with fail
    go_loopw [12] (fun i wr => ∃ k : Nat, k ≤ l.length ∧ i = .int .i64 k ∧ Hid (∀ a ∈ l.take k, a.v.os.length ≤ 80 ∧ ∀ o ∈ a.v.os, LgOk o) ∧ Below w.heap.size w wr) (fun i _ => l.length - (RowKit.intOf i).toNat)
    case atStart => exact ⟨0, Nat.zero_le _, rfl, (by unfold Hid; simp), Below.refl _ _⟩
    case round =>
      obtain ⟨k, hk, rfl, HQ, bW⟩ := hrel
      by_cases hi : k < l.length
      · obtain ⟨b, off, a, hA1, hb, hx, d0, d1, d2, d3, d4, d5, d6, d7, d8⟩ := (H.out.1.st bW).ac hi
        have HK := Lib.hid hi
        have HX := Lib.hid hx
        have HA := Lib.hid (H.out.2.1 a (List.mem_of_getElem? hx))
        have hoc : a.v.os.length ≤ 9223372036854775807 := by have := HA.out.2; omega
        subst hA1
        obtain ⟨Y2, hY2⟩ : ∃ Y, wr.alloc (.cells #[.string a.v.name, .string a.v.ag, .bool a.v.pre, .slice a.oA a.v.os.length a.oc, .int .i64 a.v.r0, .int .i64 a.v.r1, .int .i64 a.v.r2, .int .i64 a.v.r3, .bool a.v.ex] 39) = Y := ⟨_, rfl⟩
        have BX : Blk Y2 wr.heap.size #[.string a.v.name, .string a.v.ag, .bool a.v.pre, .slice a.oA a.v.os.length a.oc, .int .i64 a.v.r0, .int .i64 a.v.r1, .int .i64 a.v.r2, .int .i64 a.v.r3, .bool a.v.ex] 39 := by rw [← hY2]; exact Blk.new wr _ _
        have bW2 : Below w.heap.size w Y2 := by rw [← hY2]; exact bW.al _
        have x3 := BX.cell 3 (v := .slice a.oA a.v.os.length a.oc) rfl
        clear hx hi
        by_cases h80 : 80 < (a.v.os.length : Int)
        · go_wp2_with fail
          go_ret
          exact ⟨⟨true, rfl, fun h => by cases h⟩, bW2⟩
        · have H80 := Lib.hid (show a.v.os.length ≤ 80 by omega)
          go_wp2_with fail
          clear x3 hY2 bW
          obtain ⟨wo, rfl⟩ : ∃ wo, wo = wr := ⟨_, rfl⟩
          go_loopw [23] (fun i wr => ∃ m : Nat, m ≤ a.v.os.length ∧ i = .int .i64 m ∧ Hid (∀ o ∈ a.v.os.take m, LgOk o) ∧ Below w.heap.size w wr) (fun i _ => a.v.os.length - (RowKit.intOf i).toNat)
          case atStart => exact ⟨0, Nat.zero_le _, rfl, (by unfold Hid; simp), bW2⟩
          case round =>
            clear bW2 BX
            obtain ⟨m, hm, rfl, HM, bW⟩ := hrel
            by_cases hmi : m < a.v.os.length
            · obtain ⟨b3, off3, o, hA3, hb3, ho, e0, e1, e2, e3⟩ := (HA.out.1.st bW).ow hmi
              have HMI := Lib.hid hmi
              have HO := Lib.hid ho
              have m1 : (0 : Int) ≤ (m : Int) := by omega
              have m2 : (m : Int) < (a.v.os.length : Int) := by omega
              obtain ⟨Y5, hY5⟩ : ∃ Y, wr.alloc (.cells #[.string o.tag, .string o.pl, .int .i64 o.f, .int .i64 o.t] 43) = Y := ⟨_, rfl⟩
              have BO : Blk Y5 wr.heap.size #[.string o.tag, .string o.pl, .int .i64 o.f, .int .i64 o.t] 43 := by rw [← hY5]; exact Blk.new wr _ _
              have bW5 : Below w.heap.size w Y5 := by rw [← hY5]; exact bW.al _
              have o0 := BO.cell 0 (v := .string o.tag) rfl
              have o1 := BO.cell 1 (v := .string o.pl) rfl
              have o2 := BO.cell 2 (v := .int .i64 o.f) rfl
              have o3 := BO.cell 3 (v := .int .i64 o.t) rfl
              have CLo := Lib.hid (CL.out o)
              simp only [OwV] at CLo
              rw [hA3] at *
              clear ho hmi bW
              go_wp2_with fail
              refine (CLo.out _).mono ?_
              rintro e w6 ⟨⟨bb, rfl, hbb⟩, hbn⟩
              have bW := bW5.st hbn
              cases bb
              · have hlg := hbb rfl
                have RM : Hid (∀ o ∈ a.v.os.take (m + 1), LgOk o) := Lib.hid (by
                  intro y hy
                  rw [take_snoc HO.out, List.mem_append] at hy
                  rcases hy with hy | hy
                  · exact HM.out y hy
                  · simp at hy; subst hy; exact hlg)
                clear hbb hlg
                go_wp2_with fail
                go_roundw
                case rel => exact ⟨m + 1, HMI.out, by go_num, RM, bW⟩
                case measure => have := HMI.out; simp [RowKit.intOf]; omega
              · clear hbb
                go_wp2_with fail
                go_ret
                exact ⟨⟨true, rfl, fun h => by cases h⟩, bW⟩
            · obtain rfl : m = a.v.os.length := by omega
              have RQ : Hid (∀ a ∈ l.take (k + 1), a.v.os.length ≤ 80 ∧ ∀ o ∈ a.v.os, LgOk o) := Lib.hid (by
                intro y hy
                rw [take_snoc HX.out, List.mem_append] at hy
                rcases hy with hy | hy
                · exact HQ.out y hy
                · simp at hy; subst hy; exact ⟨H80.out, by have := HM.out; rwa [List.take_length] at this⟩)
              go_wp2_with fail
              go_roundw
              case rel => exact ⟨k + 1, HK.out, by go_num, RQ, bW⟩
              case measure => have := HK.out; simp [RowKit.intOf]; omega
      · obtain rfl : k = l.length := by omega
        have R := Lib.hid (show GOk l from ⟨by omega, by have := HQ.out; rwa [List.take_length] at this⟩)
        go_wp2
        go_ret
        exact ⟨⟨false, rfl, fun _ => R.out⟩, bW⟩
end Go.Proofs.Ytfdnciijibiodaa
