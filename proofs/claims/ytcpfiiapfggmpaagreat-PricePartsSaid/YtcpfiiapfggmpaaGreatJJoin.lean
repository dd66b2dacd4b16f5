/- Joined texts: Join, Joins, Union. -/
import Derived.Test.YtcpfiiapfggmpaaGreatJFirst
import Derived.Test.YtcpfiiapfggmpaaGreatJSumAny
import Derived.Test.YtcpfiiapfggmpaaGreatJZoneSpans
import Derived.Test.YtcpfiiapfggmpaaGreatJSort
import Derived.Test.YtcpfiiapfggmpaaGreatJRelMath
import Derived.Deep.RegionHeld3
import Derived.Deep.DrawnRows
import Derived.IntWalk
import Derived.BigRegion
/- The program's functions of span, walked: Valid, join. -/
namespace Go.Proofs.YtcpfiiapfggmpaaGreat
open Go.RowKit Go.Lib

def cfrom_ (x y : Iv) : Int := Lib.compareInt x.1 y.1
theorem ltFrom (x y : Iv) : Go.Proofs.ltOf cfrom_ x y = decide (x.1 < y.1) := by
  unfold Go.Proofs.ltOf cfrom_ Lib.compareInt
  by_cases h1 : x.1 < y.1
  · simp [h1]
  · by_cases h2 : y.1 < x.1 <;> simp [h1, h2]
theorem swoFrom : Go.Sort.SWO (Go.Proofs.ltOf cfrom_) where
  irrefl x := by rw [ltFrom]; simp
  trans x y z h1 h2 := by rw [ltFrom] at *; simp at *; omega
  ntrans x y z h1 h2 := by rw [ltFrom] at *; simp at *; omega

theorem joinCmp_any (x y : Iv) (W : World) : Calls Tryz.prog 168 #[.agg #[.int .i64 x.1, .int .i64 x.2], .agg #[.int .i64 y.1, .int .i64 y.2]] W fun e w' => e = .returned (.int .i64 (cfrom_ x y)) ∧ Gr W w' := by
  have hcon := fun W' => AnyG.cmp_Compare_int Tryz.lay_cmpint_f73 x.1 y.1 W'
  change ∀ W', Calls Tryz.prog 73 _ _ _ at hcon
  unfold cfrom_
  generalize Lib.compareInt x.1 y.1 = r at hcon ⊢
  have hg : Gr W ((W.alloc (.cells #[.int .i64 x.1, .int .i64 x.2] 59)).alloc (.cells #[.int .i64 y.1, .int .i64 y.2] 59)) := (Gr.alloc _ _).trans (Gr.alloc _ _)
  have Hc := Lib.hid hcon
  clear hcon
  go_enter Tryz.func168, Tryz.ntmps168
  go_wp2_with (go_at_call 73; refine (Hc.out _).mono ?_; rintro e w' ⟨rfl, rfl⟩)
  go_ret
  exact ⟨rfl, hg⟩

theorem joinSort_any {w : World} {base : Nat} {A : Option Addr} {c : Nat} {l : List Iv} (h : Own 59 encIv 2 w base A c l) (hb : base ≤ w.heap.size) (hsz : l.length < 4611686018427387904) :
    Calls Tryz.prog 167 #[.slice A l.length c, .func (.func 168) #[] #[]] w fun en w' => en = .returned (.tuple #[]) ∧ ∃ l' : List Iv, l'.Perm l ∧ l'.Pairwise (fun x y => x.1 ≤ y.1) ∧ Own 59 encIv 2 w' base A c l' ∧ Below base w w' := by
  have eg : ∀ args w, (callFunc 168 args).run Tryz.prog w = .ok (.enter 168 args) w := enters_of Tryz.func168 (by kernel_rfl) rfl
  refine (sort_own Tryz.lay_sort_f167 Tryz.isAgg59 Tryz.sizeOf59 encIv_ok cfrom_ swoFrom 168 #[] eg (fun W x y => joinCmp_any x y W) h hb hsz).mono ?_
  rintro en w' ⟨rfl, l', h1, h2, h3, h4⟩
  refine ⟨rfl, l', h1, h2.imp fun {x y} hxy => ?_, h3, h4⟩
  rw [ltFrom] at hxy
  simp at hxy
  exact hxy

/-- a slice, as an element of a slice of slices: address, capacity, what it reads as -/
abbrev Sl := Option Addr × Nat × List Iv
def encS (s : Sl) : List Value := [.slice s.1 s.2.2.length s.2.1]
theorem encS_ok : Enc encS 1 := ⟨fun _ => rfl, fun x u hu => by simp [encS] at hu; subst hu; rfl⟩
theorem Rd.s {w : World} {B : Nat} {A : Option Addr} {l : List Sl} (h : Rd encS 1 w B A l) {i : Nat} (hi : i < l.length) :
    ∃ b off x, A = some ⟨b, off, none⟩ ∧ b < B ∧ l[i]? = some x ∧ w.cell? ⟨b, off + i, none⟩ = some (.slice x.1 x.2.2.length x.2.1) := by
  obtain ⟨b, off, x, hA, hb, hx, hc⟩ := h.at_ hi
  exact ⟨b, off, x, hA, hb, hx, by simpa using hc 0 _ rfl⟩
def vf (l : List Iv) : List Iv := l.filter fun x => validB x.1 x.2
def flt (S : List Sl) : List Iv := (S.map fun s => vf s.2.2).flatten
theorem vf_snoc (l : List Iv) (x : Iv) : vf (l ++ [x]) = vf l ++ if validB x.1 x.2 then [x] else [] := by
  unfold vf
  rw [List.filter_append]
  by_cases h : validB x.1 x.2 = true <;> simp [h]
theorem flt_snoc (S : List Sl) (s : Sl) : flt (S ++ [s]) = flt S ++ vf s.2.2 := by simp [flt]
theorem vf_length (l : List Iv) : (vf l).length ≤ l.length := List.length_filter_le _ _
def tot (S : List Sl) : Nat := (S.map fun s => s.2.2.length).sum
theorem flt_length : ∀ S : List Sl, (flt S).length ≤ tot S
  | [] => by simp [flt]
  | s :: S => by
    have := flt_length S
    have := vf_length s.2.2
    simp only [flt, tot, List.map_cons, List.flatten_cons, List.length_append, List.sum_cons] at *
    omega
theorem tot_take (S : List Sl) (k : Nat) (s : Sl) (h : S[k]? = some s) : tot (S.take k) + s.2.2.length ≤ tot S := by
  have e : S = S.take k ++ s :: S.drop (k + 1) := by
    have hk : k < S.length := (List.getElem?_eq_some_iff.1 h).1
    have h2 : S[k] = s := (List.getElem?_eq_some_iff.1 h).2
    rw [← h2, List.getElem_cons_drop, List.take_append_drop]
  conv => rhs; rw [e]
  simp only [tot, List.map_append, List.sum_append, List.map_cons, List.sum_cons]
  omega
theorem flt_mem (S : List Sl) (t : Int) : Mem (flt S) t ↔ ∃ s ∈ S, Mem s.2.2 t := by
  induction S with
  | nil => simp [flt, Mem.nil]
  | cons s S ih =>
    rw [show flt (s :: S) = vf s.2.2 ++ flt S from rfl, Mem.append, ih, show Mem (vf s.2.2) t ↔ Mem s.2.2 t from Mem.filter _ _]
    simp
theorem flt_vld (S : List Sl) : ∀ x ∈ flt S, vld x := by
  intro x hx
  simp only [flt, List.mem_flatten, List.mem_map] at hx
  obtain ⟨l, ⟨s, _, rfl⟩, hx⟩ := hx
  unfold vf at hx
  rw [List.mem_filter] at hx
  exact (validB_iff _ _).1 hx.2

set_option maxHeartbeats 2000000 in
theorem join_any (B : Option Addr) (cp : Nat) (S : List Sl) (w : World) (hS : Rd encS 1 w w.heap.size B S) (hall : ∀ s ∈ S, Rd encIv 2 w w.heap.size s.1 s.2.2) (hlen : tot S ≤ 1000000000000) (hm : S.length ≤ 1000) :
    Calls Tryz.prog 157 #[.slice B S.length cp] w fun e w' => ∃ A' c' n, e = .returned (.slice A' n.length c') ∧ NF n ∧ (∀ t, Mem n t ↔ ∃ s ∈ S, Mem s.2.2 t) ∧ n.length ≤ tot S ∧ Own 59 encIv 2 w' w.heap.size A' c' n ∧ Below w.heap.size w w' := by
  go_enter Tryz.func157, Tryz.ntmps157
  go_wp2_with fail
  go_loopw [3, 14] (fun v i wr => ∃ (k : Nat) (A' : Option Addr) (c' : Nat) (p : List Iv), k ≤ S.length ∧ i = .int .i64 k ∧ Hid (flt (S.take k) = p) ∧ v = .slice A' p.length c' ∧ Own 59 encIv 2 wr w.heap.size A' c' p ∧ Below w.heap.size w wr) (fun _ i _ => S.length - (RowKit.intOf i).toNat)
  case atStart => exact ⟨0, none, 0, [], Nat.zero_le _, rfl, rfl, rfl, Own.nil _ _, Below.refl _ _⟩
  case round =>
    obtain ⟨k, A', c', p, hk, rfl, HP, rfl, hown, hbel⟩ := hrel
    by_cases hlt : k < S.length
    · obtain ⟨g, off, s, rfl, hg, hs, hc0⟩ := (hS.keep hbel).s hlt
      have hrd := Lib.hid (hall s (List.mem_of_getElem? hs))
      have hsl : tot (S.take k) + s.2.2.length ≤ tot S := tot_take S k s hs
      have hpl : p.length ≤ tot (S.take k) := by rw [← HP.out]; exact flt_length _
      have R := Lib.hid (show flt (S.take (k + 1)) = p ++ vf s.2.2 by rw [take_snoc hs, flt_snoc, HP.out])
      clear hS hall hs HP
      obtain ⟨a, d, l⟩ := s
      simp only at hrd hsl R hc0
      obtain ⟨wo, rfl⟩ : ∃ wo : World, wo = wr := ⟨_, rfl⟩
      go_wp2_with fail
      go_loopw [3, 20] (fun v i wr => ∃ (k2 : Nat) (A2 : Option Addr) (c2 : Nat) (q : List Iv), k2 ≤ l.length ∧ i = .int .i64 k2 ∧ Hid (p ++ vf (l.take k2) = q) ∧ v = .slice A2 q.length c2 ∧ Own 59 encIv 2 wr w.heap.size A2 c2 q ∧ Below w.heap.size w wr) (fun _ i _ => l.length - (RowKit.intOf i).toNat)
      case atStart => exact ⟨0, A', c', p, Nat.zero_le _, rfl, by unfold Hid; simp [vf], rfl, hown, hbel⟩
      case round =>
        clear hbel hown hc0
        obtain ⟨k2, A2, c2, q, hk2, rfl, HQ, rfl, hown, hbel⟩ := hrel
        have hql : q.length ≤ 1000000000000 := by
          rw [← HQ.out]
          have h1 := vf_length (l.take k2)
          have h2 : (l.take k2).length ≤ k2 := List.length_take_le _ _
          simp only [List.length_append]
          omega
        by_cases hlt2 : k2 < l.length
        · obtain ⟨g2, off2, f, u, rfl, hg2, hx, hc1, hc2⟩ := (hrd.out.keep hbel).iv hlt2
          have hst : p ++ vf (l.take (k2 + 1)) = q ++ if validB f u then [(f, u)] else [] := by
            rw [take_snoc hx, vf_snoc, ← List.append_assoc, HQ.out]
          have hbel2 := (hbel.al (.cells #[.int .i64 f, .int .i64 u] 59)).al (.cells #[.int .i64 f, .int .i64 u] 59)
          have hown2 := (hown.alloc (.cells #[.int .i64 f, .int .i64 u] 59)).alloc (.cells #[.int .i64 f, .int .i64 u] 59)
          clear hx HQ hbel hown
          cases hv : validB f u
          · have R2 := Lib.hid (show p ++ vf (l.take (k2 + 1)) = q by rw [hst, hv]; simp)
            clear hst
            go_wp2_with (go_at_call 114; refine (valid_any _ _ _).mono ?_; rintro e w' ⟨rfl, rfl⟩)
            go_roundw
            case rel => exact ⟨k2 + 1, A2, c2, q, by omega, by go_num, R2, rfl, hown2, hbel2⟩
            case measure => simp [RowKit.intOf]; omega
          · have R2 := Lib.hid (show p ++ vf (l.take (k2 + 1)) = q ++ [(f, u)] by rw [hst, hv]; rfl)
            clear hst
            go_wp2_with (first | (go_at_call 114; refine (valid_any _ _ _).mono ?_; rintro e w' ⟨rfl, rfl⟩) | (at_builtin; refine wpList_app1 rfl (.tmp 26) (.tmp 28) tyIv encIv_ok rfl ((f, u) : Iv) rfl _ rfl (by simp) hown2 rfl (by first | rfl | simp) (by first | omega | (simp; omega)) (by first | omega | (simp; omega)) hbel2.size ?_; intro A3 c3 w3 hown3 hb3 hs3 hf3; have hbel3 := hbel2.trans hb3))
            go_roundw
            case rel => exact ⟨k2 + 1, A3, c3, _, by omega, by go_num, R2, by simp, hown3, hbel3⟩
            case measure => simp [RowKit.intOf]; omega
        · obtain rfl : k2 = l.length := by omega
          have R3 := Lib.hid (show flt (S.take (k + 1)) = q by rw [R.out, ← HQ.out, List.take_length])
          clear R HQ
          go_wp2
          go_roundw
          case rel => exact ⟨k + 1, A2, c2, q, by omega, by go_num, R3, rfl, hown, hbel⟩
          case measure => simp [RowKit.intOf]; omega
    · obtain rfl : k = S.length := by omega
      have hp : flt S = p := by have := HP.out; rwa [List.take_length] at this
      have hpl : p.length ≤ tot S := by rw [← hp]; exact flt_length _
      have C1 := Lib.hid (joinSort_any hown hbel.size (by omega))
      have R0 := Lib.hid hp
      clear hS hall hp HP hown
      go_wp2_with fail
      refine C1.out.mono ?_
      rintro e w2 ⟨rfl, l, hperm, hsort, hown, hb2⟩
      have hbel2 := hbel.trans hb2
      have hvl : ∀ x ∈ l, vld x := fun x hx => flt_vld S x (by rw [R0.out]; exact hperm.mem_iff.1 hx)
      have hll : l.length ≤ 1000000000000 := by rw [hperm.length_eq]; omega
      have hJ := jfold_holds hvl hsort
      have hmem : ∀ t, Mem (jfold l) t ↔ ∃ s ∈ S, Mem s.2.2 t := fun t => by rw [hJ.2, Mem.perm hperm, ← R0.out, flt_mem]
      have hjl : (jfold l).length ≤ tot S := Nat.le_trans (jfold_length l) (by rw [hperm.length_eq]; exact hpl)
      have R1 := Lib.hid hJ.1
      have R2 := Lib.hid hmem
      have R3 := Lib.hid hjl
      have hpe : p.length = l.length := hperm.length_eq.symm
      rw [hpe]
      clear C1 hJ hmem hjl hvl hsort hpe hperm hbel hb2 R0 hpl
      have hrd := Lib.hid (hown.rd encIv_ok)
      clear hown
      go_wp2_with fail
      go_loopw [8, 36] (fun v i wr => ∃ (k : Nat) (A2 : Option Addr) (c2 : Nat) (o : List Iv), k ≤ l.length ∧ i = .int .i64 k ∧ Hid (jfold (l.take k) = o) ∧ v = .slice A2 o.length c2 ∧ Own 59 encIv 2 wr w2.heap.size A2 c2 o ∧ Below w2.heap.size w2 wr) (fun _ i _ => l.length - (RowKit.intOf i).toNat)
      case atStart => exact ⟨0, none, 0, [], Nat.zero_le _, rfl, rfl, rfl, Own.nil _ _, Below.refl _ _⟩
      case round =>
        obtain ⟨k, A2, c2, o, hk, rfl, HO, rfl, hown, hbr⟩ := hrel
        have hol : o.length ≤ 1000000000000 := by
          rw [← HO.out]
          have h1 := jfold_length (l.take k)
          have h2 : (l.take k).length ≤ k := List.length_take_le _ _
          omega
        by_cases hlt : k < l.length
        · obtain ⟨g, off, f, u, rfl, hg, hx, hc0, hc1⟩ := (hrd.out.keep hbr).iv hlt
          have hst : jfold (l.take (k + 1)) = jstep o (f, u) := by rw [take_snoc hx, jfold_snoc, HO.out]
          have hbr1 := hbr.al (.cells #[.int .i64 f, .int .i64 u] 59)
          have hown1 := hown.alloc (.cells #[.int .i64 f, .int .i64 u] 59)
          clear hx HO
          rcases snoc_cases o with rfl | ⟨q, z, rfl⟩
          · have R := Lib.hid (show jfold (l.take (k + 1)) = [(f, u)] by rw [hst]; rfl)
            clear hst hbr hown
            go_wp2_with fail
            go_quiet (fail)
            go_wp2_with (at_builtin; refine wpList_appB (l := ([] : List Iv)) rfl (.tmp 69) (.tmp 71) tyIv encIv_ok (by rfl) ((f, u) : Iv) (by rfl) w2.heap.size (by rfl) (by first | rfl | simp) (by exact (hown1.alloc _)) (by rfl) (by first | exact heap_alloc_new _ _ | exact heap_alloc_new' _ _ _ (by simp)) (by first | omega | (simp; done) | (simp; omega)) (by first | omega | (simp; done) | (simp; omega)) (by have := hbr1.size; simp at this ⊢; omega) ?_; intro A3 c3 w3 hown3 hb3 hs3 hf3; have hbel3 := (below_drewN (hbr1.al _) _).trans hb3)
            go_roundw
            case rel => exact ⟨k + 1, A3, c3, _, by omega, by go_num, R, by simp, hown3, hbel3⟩
            case measure => simp [RowKit.intOf]; omega
          · have hql : q.length ≤ 1000000000000 := by simp at hol; omega
            obtain ⟨hA, h0, _⟩ | ⟨g', hA, hg1, hg2⟩ := hown1.form
            · simp at h0
            · subst hA
              have hz1 := hown.cells encIv_ok rfl (i := q.length) (x := z) (by simp) (j := 1) (u := .int .i64 z.2) rfl
              have hz2 := hown.frozen rfl (q.length * 2 + 1)
              obtain ⟨_, h0, _⟩ | ⟨g'', hA, _, hg3⟩ := hown.form
              · simp at h0
              · injection hA with hA
                injection hA with hA
                subst hA
                by_cases he : f ≤ z.2
                · have R := Lib.hid (show jfold (l.take (k + 1)) = q ++ [(z.1, max z.2 u)] by rw [hst, jstep_snoc, if_pos he])
                  clear hst hbr hown
                  go_wp2_with fail
                  go_quiet (fail)
                  go_wp2_with fail
                  have hown4 := (hown1.drewN nq).stored encIv_ok (g := g') (i := q.length) (j := 1) (x := z) (y := (z.1, max z.2 u)) (u := .int .i64 (max z.2 u)) rfl (by simp) (by omega) rfl
                  have hset : (q ++ [z]).set q.length (z.1, max z.2 u) = q ++ [(z.1, max z.2 u)] := by simp
                  rw [hset] at hown4
                  have hbr4 := (below_drewN hbr1 nq).setCell (p := ⟨g', q.length * 2 + 1, none⟩) hg1 (.int .i64 (max z.2 u))
                  have k1 : ((wr.alloc (.cells #[.int .i64 f, .int .i64 u] 59)).drewN nq).cell? ⟨g', q.length * 2 + 1, none⟩ = some (.int .i64 z.2) := (World.cell?_alloc_lt wr _ _ hg3).trans hz1
                  have k2 : ((wr.alloc (.cells #[.int .i64 f, .int .i64 u] 59)).drewN nq).frozen? ⟨g', q.length * 2 + 1, none⟩ = false := hown1.frozen rfl _
                  have k3 : ((wr.alloc (.cells #[.int .i64 f, .int .i64 u] 59)).drewN nq).cell? ⟨wr.heap.size, 1, none⟩ = some (.int .i64 u) := by simp
                  clear hset hown1 hbr1 hz1 hz2 hc0 hc1
                  generalize (wr.alloc (.cells #[.int .i64 f, .int .i64 u] 59)).drewN nq = wq at *
                  go_region
                  go_wp2
                  go_roundw
                  case rel => exact ⟨k + 1, _, c2, _, by omega, by go_num, R, by simp, hown4.drew, hbr4.drew⟩
                  case measure => simp [RowKit.intOf]; omega
                · have R := Lib.hid (show jfold (l.take (k + 1)) = q ++ [z] ++ [(f, u)] by rw [hst, jstep_snoc, if_neg he])
                  clear hst hbr hown
                  go_wp2_with fail
                  go_quiet (fail)
                  go_wp2_with (at_builtin; refine wpList_appB (l := q ++ [z]) rfl (.tmp 69) (.tmp 71) tyIv encIv_ok (by rfl) ((f, u) : Iv) (by rfl) w2.heap.size (by rfl) (by first | rfl | simp) (by exact (hown1.alloc _)) (by rfl) (by first | exact heap_alloc_new _ _ | exact heap_alloc_new' _ _ _ (by simp)) (by first | omega | (simp; done) | (simp; omega)) (by first | omega | (simp; done) | (simp; omega)) (by have := hbr1.size; simp at this ⊢; omega) ?_; intro A3 c3 w3 hown3 hb3 hs3 hf3; have hbel3 := (below_drewN (hbr1.al _) _).trans hb3)
                  go_roundw
                  case rel => exact ⟨k + 1, A3, c3, _, by omega, by go_num, R, by simp, hown3, hbel3⟩
                  case measure => simp [RowKit.intOf]; omega
        · obtain rfl : k = l.length := by omega
          have R4 := Lib.hid (show jfold l = o by have := HO.out; rwa [List.take_length] at this)
          clear HO
          go_wp2
          go_ret
          refine ⟨A2, c2, o, rfl, by rw [← R4.out]; exact R1.out, by rw [← R4.out]; exact R2.out, by rw [← R4.out]; exact R3.out, hown.mono hbel2.size, hbel2.trans (hbr.mono hbel2.size)⟩
end Go.Proofs.YtcpfiiapfggmpaaGreat
/- span.join at one and two lists, walked. -/
namespace Go.Proofs.YtcpfiiapfggmpaaGreat
open Go.RowKit Go.Lib

/-- what is handed back: a new slice that reads as the normal form of the set S -/
def NFr (S : Int → Prop) (w w' : World) (e : Ending) : Prop :=
  ∃ A c n, e = .returned (.slice A n.length c) ∧ NF n ∧ (∀ t, Mem n t ↔ S t) ∧ Own 59 encIv 2 w' w.heap.size A c n ∧ Below w.heap.size w w'

theorem join1 {A : Option Addr} (c : Nat) {l : List Iv} {w : World} (h : Rd encIv 2 w w.heap.size A l) (hl : l.length ≤ 100000000000) :
    Calls Tryz.prog 157 #[.slice (some ⟨w.heap.size, 0, none⟩) 1 1] (w.alloc (.cells #[.slice A l.length c] 62)) fun e w' => NFr (Mem l) w w' e := by
  have hz : w.heap.size < (w.alloc (.cells #[.slice A l.length c] 62)).heap.size := by simp
  have hS : Rd encS 1 (w.alloc (.cells #[.slice A l.length c] 62)) (w.alloc (.cells #[.slice A l.length c] 62)).heap.size (some ⟨w.heap.size, 0, none⟩) [((A, c, l) : Sl)] := by
    intro _
    refine ⟨_, _, rfl, hz, fun i x hi j u hu => ?_⟩
    match i, j with
    | 0, 0 => simp at hi; subst hi; simp [encS] at hu; subst hu; simp
    | i + 1, _ => simp at hi
    | 0, j + 1 => simp [encS] at hu
  refine (join_any (some ⟨w.heap.size, 0, none⟩) 1 [((A, c, l) : Sl)] (w.alloc (.cells #[.slice A l.length c] 62)) hS ?_ (by simp [tot]; omega) (by simp)).mono ?_
  · intro s hs
    simp at hs
    subst hs
    exact (h.keepW fun p hp => World.cell?_alloc_lt w _ p hp).more (Nat.le_of_lt hz)
  · rintro e w' ⟨A', c', n, rfl, h1, h2, _, h3, h4⟩
    exact ⟨A', c', n, rfl, h1, fun t => by rw [h2]; simp, h3.mono (Nat.le_of_lt hz), ((Below.refl _ w).alloc (Nat.le_refl _) _).trans (h4.mono (Nat.le_of_lt hz))⟩
theorem join2 {A B : Option Addr} (c d : Nat) {a b : List Iv} {w : World} (ha : Rd encIv 2 w w.heap.size A a) (hb : Rd encIv 2 w w.heap.size B b) (hla : a.length ≤ 100000000000) (hlb : b.length ≤ 100000000000) :
    Calls Tryz.prog 157 #[.slice (some ⟨w.heap.size, 0, none⟩) 2 2] (w.alloc (.cells #[.slice A a.length c, .slice B b.length d] 62)) fun e w' => NFr (fun t => Mem a t ∨ Mem b t) w w' e := by
  have hz : w.heap.size < (w.alloc (.cells #[.slice A a.length c, .slice B b.length d] 62)).heap.size := by simp
  have hS : Rd encS 1 (w.alloc (.cells #[.slice A a.length c, .slice B b.length d] 62)) (w.alloc (.cells #[.slice A a.length c, .slice B b.length d] 62)).heap.size (some ⟨w.heap.size, 0, none⟩) [((A, c, a) : Sl), ((B, d, b) : Sl)] := by
    intro _
    refine ⟨_, _, rfl, hz, fun i x hi j u hu => ?_⟩
    match i, j with
    | 0, 0 => simp at hi; subst hi; simp [encS] at hu; subst hu; simp
    | 1, 0 => simp at hi; subst hi; simp [encS] at hu; subst hu; simp
    | i + 2, _ => simp at hi
    | 0, j + 1 => simp [encS] at hu
    | 1, j + 1 => simp [encS] at hu
  refine (join_any (some ⟨w.heap.size, 0, none⟩) 2 [((A, c, a) : Sl), ((B, d, b) : Sl)] (w.alloc (.cells #[.slice A a.length c, .slice B b.length d] 62)) hS ?_ (by simp [tot]; omega) (by simp)).mono ?_
  · intro s hs
    simp at hs
    rcases hs with rfl | rfl
    · exact (ha.keepW fun p hp => World.cell?_alloc_lt w _ p hp).more (Nat.le_of_lt hz)
    · exact (hb.keepW fun p hp => World.cell?_alloc_lt w _ p hp).more (Nat.le_of_lt hz)
  · rintro e w' ⟨A', c', n, rfl, h1, h2, _, h3, h4⟩
    exact ⟨A', c', n, rfl, h1, fun t => by rw [h2]; simp, h3.mono (Nat.le_of_lt hz), ((Below.refl _ w).alloc (Nat.le_refl _) _).trans (h4.mono (Nat.le_of_lt hz))⟩

end Go.Proofs.YtcpfiiapfggmpaaGreat
/- span.Union, walked. -/
namespace Go.Proofs.YtcpfiiapfggmpaaGreat
open Go.RowKit Go.Lib

theorem union_any {A B : Option Addr} (c d : Nat) {a b : List Iv} {w : World} (ha : Rd encIv 2 w w.heap.size A a) (hb : Rd encIv 2 w w.heap.size B b) (hla : a.length ≤ 100000000000) (hlb : b.length ≤ 100000000000) :
    Calls Tryz.prog 156 #[.slice A a.length c, .slice B b.length d] w fun e w' => NFr (fun t => Mem a t ∨ Mem b t) w w' e := by
  have C := Lib.hid (join2 c d ha hb hla hlb)
  clear ha hb
  go_enter Tryz.func156, Tryz.ntmps156
  go_wp2_with fail
  refine C.out.mono ?_
  rintro e w' ⟨A', c', n, rfl, h1, h2, h3, h4⟩
  have H2 := Lib.hid h2
  clear h2
  go_wp2_with fail
  go_ret
  exact ⟨A', c', n, rfl, h1, H2.out, h3, h4⟩

end Go.Proofs.YtcpfiiapfggmpaaGreat
